/- wal.Scan answers as the reference does, for all bytes; no condition. -/
import Derived.Test.YtnjidfgjldkkcaaQWv1
namespace Go.Proofs.Ytnjidfgjldkkcaa.Plain
open Go.RowKit Go.Proofs.Ytnjidfgjldkkcaa.Q Go.Proofs.YtnjidfgjldkkcaaW.PrintWords
theorem readF_bound (b : List Int) (M : Nat) : ∀ (f : Nat) (bs : List (List (List Int))) (ba : List (List Int)) (used n : Nat), (∀ x ∈ bs, x.length ≤ M) → ba.length + f ≤ M →
    (readF b f bs ba used n).1.length ≤ bs.length + f ∧ ∀ x ∈ (readF b f bs ba used n).1, x.length ≤ M
  | 0, bs, ba, used, n, h, _ => ⟨Nat.le_refl _, h⟩
  | f + 1, bs, ba, used, n, h, hm => by
    unfold readF
    by_cases h1 : (firstF (b.drop n)).2.2 = 0
    · rw [if_pos h1]; exact ⟨by simp, h⟩
    rw [if_neg h1]
    by_cases h2 : (firstF (b.drop n)).2.1 = true
    · rw [if_pos h2]
      have := readF_bound b M f (bs ++ [ba ++ [(firstF (b.drop n)).1]]) [] (n + (firstF (b.drop n)).2.2) (n + (firstF (b.drop n)).2.2) (fun x hx => by
        rw [List.mem_append, List.mem_singleton] at hx
        rcases hx with hx | rfl
        · exact h x hx
        · rw [List.length_append, List.length_singleton]; omega) (by simp; omega)
      rw [List.length_append, List.length_singleton] at this
      exact ⟨by omega, this.2⟩
    · rw [if_neg h2]
      have := readF_bound b M f bs (ba ++ [(firstF (b.drop n)).1]) used (n + (firstF (b.drop n)).2.2) h (by rw [List.length_append, List.length_singleton]; omega)
      exact ⟨by omega, this.2⟩
theorem rd5_at {l : List (List (List Int))} {i : Nat} (h : i < l.length) : rd_L5 l (i : Int) = l[i] := by
  unfold rd_L5
  rw [Int.toNat_natCast, List.getD_eq_getElem?_getD, List.getElem?_eq_getElem h]
  rfl
theorem same_l1 (l : List (List (List Int))) (i : Nat) (hi : i < l.length) (hm : l[i].length ≤ 1000000) (r : Bool) (h : Ev (fun k => bagnallref_SameBatches.l0 k l l (l.length : Int) (wrap64 ((i : Int) + 1))) r) :
    ∀ (d j : Nat), j + d = l[i].length → Ev (fun k => bagnallref_SameBatches.l1 k l l (i : Int) (l.length : Int) (i : Int) (l[i].length : Int) (j : Int)) r
  | 0, j, hj => Ev.step (fun k => rfl) (Ev.neg (by omega) h)
  | d + 1, j, hj => by
    have e2 : wrap64 ((j : Int) + 1) = ((j + 1 : Nat) : Int) := wrap_succ (by omega)
    refine Ev.step (fun k => rfl) (Ev.pos (by omega) (Ev.pos (by omega) (Ev.pos (by omega) (Ev.pos (by omega) (Ev.pos (by rw [rd5_at hi]; omega) (Ev.pos (by omega) (Ev.pos (by rw [rd5_at hi]; omega) (Ev.pos rfl ?_))))))))
    rw [e2]
    exact same_l1 l i hi hm r h d (j + 1) (by omega)
theorem same_l0 (l : List (List (List Int))) (hl : l.length ≤ 1000000) (hm : ∀ x ∈ l, x.length ≤ 1000000) : ∀ (d i : Nat), i + d = l.length → Ev (fun k => bagnallref_SameBatches.l0 k l l (l.length : Int) (i : Int)) true
  | 0, i, hi => Ev.step (fun k => rfl) (Ev.neg (by omega) (Ev.now _))
  | d + 1, i, hi => by
    have hlt : i < l.length := by omega
    have e2 : wrap64 ((i : Int) + 1) = ((i + 1 : Nat) : Int) := wrap_succ (by omega)
    refine Ev.step (fun k => rfl) (Ev.pos (by omega) (Ev.pos (by omega) (Ev.pos (by omega) (Ev.pos (by omega) (Ev.pos rfl ?_)))))
    rw [rd5_at hlt]
    exact same_l1 l i hlt (hm _ (List.getElem_mem hlt)) true (by rw [e2]; exact same_l0 l hl hm d (i + 1) (by omega)) l[i].length 0 (by omega)
theorem same_ev (l : List (List (List Int))) (hl : l.length ≤ 1000000) (hm : ∀ x ∈ l, x.length ≤ 1000000) : Ev (fun k => bagnallref_SameBatches.f k l l) true := by
  unfold bagnallref_SameBatches.f
  exact Ev.pos rfl (same_l0 l hl hm l.length 0 (by omega))
theorem byte_wf8 {z : Int} (h : (Lit.int .u8 z).wf = true) : 0 ≤ z ∧ z ≤ 255 := by
  simp [Lit.wf, show IntKind.u8.min = 0 from rfl, show IntKind.u8.max = 255 from rfl] at h
  omega
end Go.Proofs.Ytnjidfgjldkkcaa.Plain
namespace Go.Proofs.Ytnjidfgjldkkcaa.Pure
open Go.RowKit Go.Proofs.Ytnjidfgjldkkcaa.Q Go.Proofs.YtnjidfgjldkkcaaW.PrintWords Go.Proofs.Ytnjidfgjldkkcaa.Plain
theorem walkWalScans (W : World) (l : List Int) (A : Option Addr) (c : Nat) (hc : l.length ≤ c) (C : Kd.C (Kd.int .u8) W A l.length l)
    (ok : l.length ≤ 9223372036854775807 ∧ l.length * Try.prog.bytesOf 5 ≤ 140737488351232 ∧ ∀ y ∈ l, (Lit.int .u8 y).wf = true) :
    Calls Try.prog 9 #[.slice A l.length c] W fun e w' => e = .returned (.bool true) ∧ Below W.heap.size W w' := by
  obtain ⟨n, hn⟩ : ∃ n, bagnalllaw_WalScans.f n l = some true := Ev.rounds (by
    unfold bagnalllaw_WalScans.f
    have hb : bytesB l = true := of_byteL fun x hx => byte_wf8 (ok.2.2 x hx)
    have hs : (scanF l).1.length ≤ 1000000 ∧ ∀ x ∈ (scanF l).1, x.length ≤ 1000000 := by
      unfold scanF
      by_cases h : 1200 < l.length
      · rw [if_pos h]; exact ⟨by simp, by simp⟩
      · rw [if_neg h]
        have := readF_bound l 10000 (l.length + 1) [] [] 0 0 (by simp) (by simp; omega)
        refine ⟨?_, fun x hx => ?_⟩
        · have := this.1
          simp only [List.length_nil] at this
          show (readF l (l.length + 1) [] [] 0 0).1.length ≤ _
          omega
        · have := this.2 x hx
          omega
    refine Ev.bind (Ev.lift (r := scanF l) rfl) (Ev.bind (Ev.lift (r := scanF l) (by unfold bagnallref_WalScan.f; rw [if_pos hb])) (Ev.bind (same_ev _ hs.1 hs.2) (Ev.pos rfl (Ev.pos rfl (Ev.to (Ev.now _) (by simp)))))))
  exact bagnalllaw_WalScans.calls n A c l true W C hc hn
end Go.Proofs.Ytnjidfgjldkkcaa.Pure
