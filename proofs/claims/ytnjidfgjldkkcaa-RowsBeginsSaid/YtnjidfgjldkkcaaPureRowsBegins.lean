/- rows.Begin answers as the reference does, for every table and every head that a memory bears; no condition. -/
import Derived.Test.YtnjidfgjldkkcaaPlNext
import Derived.Test.YtnjidfgjldkkcaaQBe1
namespace Go.Proofs.Ytnjidfgjldkkcaa.Pure
open Go.RowKit Go.Proofs.Ytnjidfgjldkkcaa.Q Go.Proofs.YtnjidfgjldkkcaaW.PrintWords Go.Proofs.Ytnjidfgjldkkcaa.Plain

theorem toList_extract0 (s : ByteArray) (n : Nat) : (s.extract 0 n).toList = s.toList.take n := by
  rw [Go.ByteArray.toList_eq, Go.ByteArray.toList_eq, ByteArray.data_extract, Array.toList_extract]
  simp
theorem begin_l0 (l : List S69) (h : ByteArray) (hl : l.length ≤ 40) : ∀ (d i : Nat) (x : List S69), i + d = l.length → x.length ≤ i → Ev (fun n => bagnallref_rowsBegin.l0 n h x l (l.length : Int) (i : Int)) (x ++ (l.drop i).filter fun r => pfx h r.f0)
  | 0, i, x, hi, hx => by
    rw [List.drop_of_length_le (by omega), List.filter_nil, List.append_nil]
    exact Ev.step (fun k => rfl) (Ev.neg (by omega) (Ev.now _))
  | d + 1, i, x, hi, hx => by
    have hlt : i < l.length := by omega
    have e2 : wrap64 ((i : Int) + 1) = ((i + 1 : Nat) : Int) := wrap_succ (by omega)
    rw [List.drop_eq_getElem_cons hlt]
    refine Ev.step (fun k => rfl) (Ev.pos (by omega) (Ev.pos (by omega) (Ev.pos (by omega) ?_)))
    rw [rd69 hlt, e2]
    have hsz := len_toList h
    have hsk := len_toList l[i].f0
    by_cases h1 : ((l[i].f0.size : Int) ≥ (h.size : Int))
    · refine Ev.pos h1 (Ev.pos (by omega) (Ev.pos (by omega) ?_))
      rw [toList_extract0]
      by_cases h2 : l[i].f0.toList.take h.size = h.toList
      · have hp : (fun r : S69 => pfx h r.f0) l[i] = true := by show pfx h l[i].f0 = true; unfold pfx; rw [hsz]; exact decide_eq_true h2
        rw [List.filter_cons_of_pos (p := fun r : S69 => pfx h r.f0) hp]
        refine Ev.pos h2 (Ev.pos (by omega) ?_)
        have := begin_l0 l h hl d (i + 1) (x ++ [l[i]]) (by omega) (by simp; omega)
        rw [List.append_assoc, List.singleton_append] at this
        exact this
      · have hp : ¬ (fun r : S69 => pfx h r.f0) l[i] = true := by show ¬ pfx h l[i].f0 = true; unfold pfx; rw [hsz]; simpa using h2
        rw [List.filter_cons_of_neg (p := fun r : S69 => pfx h r.f0) hp]
        exact Ev.neg h2 (begin_l0 l h hl d (i + 1) x (by omega) (by omega))
    · have hp : ¬ (fun r : S69 => pfx h r.f0) l[i] = true := by
        show ¬ pfx h l[i].f0 = true
        unfold pfx
        rw [hsz, decide_eq_true_eq]
        intro e
        have := congrArg List.length e
        rw [List.length_take] at this
        omega
      rw [List.filter_cons_of_neg (p := fun r : S69 => pfx h r.f0) hp]
      exact Ev.neg h1 (begin_l0 l h hl d (i + 1) x (by omega) (by omega))

theorem tw_le {α : Type} (p q : α → Bool) : ∀ l : List α, (∀ x ∈ l, p x = true → q x = true) → (l.takeWhile p).length ≤ (l.takeWhile q).length
  | [], _ => Nat.le_refl _
  | a :: t, h => by
    have ih := tw_le p q t (fun x hx => h x (by simp [hx]))
    by_cases hp : p a = true
    · rw [List.takeWhile_cons_of_pos hp, List.takeWhile_cons_of_pos (h a (by simp) hp)]
      simpa using ih
    · rw [List.takeWhile_cons_of_neg hp]; simp
theorem begin_ev (l : List S69) (h : ByteArray) (hh : h.size ≤ 140737488351232) : ∃ q, Ev (fun n => rows_Begin.f n l h) q ∧ Ev (fun n => bagnallref_RowsBegin.f n l h) q ∧ q.1.length ≤ 40 := by
  unfold rows_Begin.f bagnallref_RowsBegin.f
  by_cases h0 : ¬ rowsErr l = 0
  · exact ⟨(([] : List S69), rowsErr l), Ev.bind (check_ev l) (Ev.neg h0 (Ev.now _)), Ev.bind (fault_ev l) (Ev.neg h0 (Ev.now _)), by simp⟩
  replace h0 : rowsErr l = 0 := Decidable.not_not.1 h0
  obtain ⟨hl, _, ha⟩ := rowsErr_zero h0
  have hs := begin_l0 l h hl l.length 0 [] (by omega) (by simp)
  rw [List.drop_zero, List.nil_append] at hs
  have hb : Ev (fun n => bagnallref_rowsBegin.f n l h) (l.filter fun r => pfx h r.f0) := hs
  refine ⟨(l.filter fun r => pfx h r.f0, 0), Ev.bind (check_ev l) (Ev.pos h0 (Ev.bind ?_ (Ev.now _))), Ev.bind (fault_ev l) (Ev.pos h0 (Ev.bind hb (Ev.now _))), Nat.le_trans (List.length_filter_le _ _) hl⟩
  have hp : ∀ k, rows_place.f l k = some ((cut l k : Int), placeB l k) := by
    intro k
    unfold rows_place.f
    rw [if_pos (by omega), placeI_cut ha]
  have hnx := next_nx h h.size (Nat.le_refl _)
  rw [show h.toList.take h.size = h.toList by rw [← len_toList, List.take_length]] at hnx
  have hne := next_ev h hh h.size (Nat.le_refl _)
  rw [head_whole] at hne
  have hsg := begin_seg ha h _ hnx
  generalize strOfNums (Q.raised h (trimLen h h.size)) = n at hne hsg hnx
  have hcl := cut_le l h
  have hc2 := cut_le l n
  have hlo : ¬ n.toList = [] → cut l h ≤ cut l n := by
    intro e
    refine tw_le _ _ l fun x _ hx => ?_
    rcases less_nx _ _ hx with h2 | h2
    · rw [← hnx] at h2; exact absurd h2 e
    · unfold kl; rw [hnx]; exact h2
  have hne' : Ev (fun k => rows_Next.f k h) n := hne
  unfold rows_Beginning.f
  refine Ev.bind (Ev.lift (hp h)) (Ev.bind hne' ?_)
  by_cases e : n.toList = []
  · rw [if_pos e] at hsg
    refine Ev.pos e (Ev.pos (by simp) (Ev.pos (by simp; omega) (Ev.pos (by omega) (Ev.lift ?_))))
    simp only [Int.toNat_natCast]
    rw [hsg]
    unfold api_Row_67.f
    rw [if_pos (Nat.le_trans (List.length_filter_le _ _) (by omega))]
    rfl
  · rw [if_neg e] at hsg
    have := hlo e
    refine Ev.neg e (Ev.bind (Ev.lift (hp n)) (Ev.pos (by simp) (Ev.pos (by simp; omega) (Ev.pos (by simp; omega) (Ev.lift ?_)))))
    simp only [Int.toNat_natCast]
    rw [hsg]
    unfold api_Row_67.f
    rw [if_pos (Nat.le_trans (List.length_filter_le _ _) (by omega))]
    rfl

theorem walkRowsBegins (W : World) (l : List S69) (A : Option Addr) (c : Nat) (hc : l.length ≤ c) (C : Kd.C k69 W A l.length l)
    (_ : l.length ≤ 9223372036854775807 ∧ l.length * Try.prog.bytesOf 69 ≤ 140737488351232 ∧ ∀ x ∈ l, x.f0.size ≤ 140737488351232 ∧ x.f1.size ≤ 140737488351232) (h : ByteArray) (hh : h.size ≤ 140737488351232) :
    Calls Try.prog 6 #[.slice A l.length c, .string h] W fun e w' => e = .returned (.bool true) ∧ Below W.heap.size W w' := by
  obtain ⟨n, hn⟩ : ∃ n, bagnalllaw_RowsBegins.f n l h = some true := Ev.rounds (by
    unfold bagnalllaw_RowsBegins.f
    obtain ⟨q, h1, h2, h3⟩ := begin_ev l h hh
    exact Ev.bind h1 (Ev.bind h2 (Ev.bind (same_ev q.1 (by omega)) (Ev.pos rfl (Ev.to (Ev.now _) (by simp))))))
  exact bagnalllaw_RowsBegins.calls n A c l h true W C hc hn
end Go.Proofs.Ytnjidfgjldkkcaa.Pure
