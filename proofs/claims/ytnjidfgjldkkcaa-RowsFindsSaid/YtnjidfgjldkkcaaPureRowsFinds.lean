/- rows.Find answers as the reference does, for every table and every key; no condition. -/
import Derived.Test.YtnjidfgjldkkcaaPlSort
import Derived.Test.YtnjidfgjldkkcaaQFi1
import Derived.Test.YtnjidfgjldkkcaaQRa3
namespace Go.Proofs.Ytnjidfgjldkkcaa.Pure
open Go.RowKit Go.Proofs.Ytnjidfgjldkkcaa.Q Go.Proofs.YtnjidfgjldkkcaaW.PrintWords Go.Proofs.Ytnjidfgjldkkcaa.Plain

/-- The first row with the key. -/
def seek (k : ByteArray) : List S69 → ByteArray × Int
  | [] => ((⟨#[]⟩ : ByteArray), 8)
  | r :: t => if r.f0 = k then (r.f1, 0) else seek k t
theorem seek_ev (l : List S69) (k : ByteArray) (hl : l.length ≤ 40) : ∀ (d i : Nat), i + d = l.length → Ev (fun n => bagnallref_RowsFind.l0 n k l (l.length : Int) (i : Int)) (seek k (l.drop i))
  | 0, i, hi => by
    rw [List.drop_of_length_le (by omega)]
    exact Ev.step (fun k => rfl) (Ev.neg (by omega) (Ev.now _))
  | d + 1, i, hi => by
    have hlt : i < l.length := by omega
    have e2 : wrap64 ((i : Int) + 1) = ((i + 1 : Nat) : Int) := wrap_succ (by omega)
    rw [List.drop_eq_getElem_cons hlt]
    refine Ev.step (fun k => rfl) (Ev.pos (by omega) (Ev.pos (by omega) (Ev.pos (by omega) ?_)))
    rw [rd69 hlt, e2]
    unfold seek
    by_cases h : l[i].f0 = k
    · rw [if_pos h]; exact Ev.pos (toList_inj.2 h) (Ev.now _)
    · rw [if_neg h]; exact Ev.neg (fun e => h (toList_inj.1 e)) (seek_ev l k hl d (i + 1) (by omega))
theorem seek_none (k : ByteArray) : ∀ (l : List S69), (∀ r ∈ l, r.f0 ≠ k) → seek k l = ((⟨#[]⟩ : ByteArray), 8)
  | [], _ => rfl
  | r :: t, h => by unfold seek; rw [if_neg (h r (by simp)), seek_none k t (fun x hx => h x (by simp [hx]))]
theorem seek_at (k : ByteArray) : ∀ (l : List S69) (i : Nat) (h : i < l.length), Asc l → l[i].f0 = k → seek k l = (l[i].f1, 0)
  | r :: t, 0, h, _, e => by unfold seek; exact if_pos e
  | r :: t, i + 1, h, ha, e => by
    have h' : i < t.length := by simpa using h
    have e' : t[i].f0 = k := e
    have hr := (List.pairwise_cons.1 ha).1 _ (List.getElem_mem h')
    unfold seek
    rw [if_neg (fun e2 => by rw [e', ← e2, kl_irr] at hr; cases hr)]
    exact seek_at k t i h' (List.Pairwise.of_cons ha) e'

theorem find_ev (l : List S69) (k : ByteArray) : ∃ q, Ev (fun n => rows_Find.f n l k) q ∧ Ev (fun n => bagnallref_RowsFind.f n l k) q := by
  unfold rows_Find.f bagnallref_RowsFind.f
  by_cases h0 : ¬ rowsErr l = 0
  · exact ⟨((⟨#[]⟩ : ByteArray), rowsErr l), Ev.bind (check_ev l) (Ev.neg h0 (Ev.now _)), Ev.bind (fault_ev l) (Ev.neg h0 (Ev.now _))⟩
  replace h0 : rowsErr l = 0 := Decidable.not_not.1 h0
  obtain ⟨hl, _, ha⟩ := rowsErr_zero h0
  have hs := seek_ev l k hl l.length 0 (by omega)
  rw [List.drop_zero] at hs
  refine ⟨seek k l, Ev.bind (check_ev l) (Ev.pos h0 ?_), Ev.bind (fault_ev l) (Ev.pos h0 hs)⟩
  have hp : rows_place.f l k = some ((cut l k : Int), placeB l k) := by
    unfold rows_place.f
    rw [if_pos (by omega), placeI_cut ha]
  unfold rows_Value.f
  cases hb : placeB l k
  · have hn : ∀ r ∈ l, r.f0 ≠ k := by
      intro r hr e
      obtain ⟨i, hi, rfl⟩ := List.mem_iff_getElem.1 hr
      have hc := cut_at ha hi
      rw [e] at hc
      have := (placeB_iff ha k).2 ⟨by omega, by simp only [hc]; exact e⟩
      rw [hb] at this
      cases this
    rw [seek_none k l hn]
    refine Ev.bind (Ev.lift (r := ((⟨#[]⟩ : ByteArray), false)) ?_) (Ev.neg (by simp) (Ev.now _))
    rw [hp, hb, Option.bind_some, if_neg (by simp)]
  · obtain ⟨hc, he⟩ := (placeB_iff ha k).1 hb
    rw [seek_at k l _ hc ha he]
    refine Ev.bind (Ev.lift (r := (l[cut l k].f1, true)) ?_) (Ev.pos rfl (Ev.now _))
    rw [hp, hb, Option.bind_some, if_pos rfl, if_pos (by omega), if_pos (by omega), rd69 hc]

theorem walkRowsFinds (W : World) (l : List S69) (A : Option Addr) (c : Nat) (hc : l.length ≤ c) (C : Kd.C k69 W A l.length l)
    (_ : l.length ≤ 9223372036854775807 ∧ l.length * Try.prog.bytesOf 69 ≤ 140737488351232 ∧ ∀ x ∈ l, x.f0.size ≤ 140737488351232 ∧ x.f1.size ≤ 140737488351232) (k : ByteArray) (_ : k.size ≤ 140737488351232) :
    Calls Try.prog 5 #[.slice A l.length c, .string k] W fun e w' => e = .returned (.bool true) ∧ Below W.heap.size W w' := by
  obtain ⟨n, h⟩ : ∃ n, bagnalllaw_RowsFinds.f n l k = some true := Ev.rounds (by
    unfold bagnalllaw_RowsFinds.f
    obtain ⟨q, h1, h2⟩ := find_ev l k
    exact Ev.bind h1 (Ev.bind h2 (Ev.pos rfl (Ev.to (Ev.now _) (by simp)))))
  exact bagnalllaw_RowsFinds.calls n A c l k true W C hc h
end Go.Proofs.Ytnjidfgjldkkcaa.Pure
