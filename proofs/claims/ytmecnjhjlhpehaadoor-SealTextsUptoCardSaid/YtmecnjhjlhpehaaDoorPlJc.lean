/- How many values a value holds: plain. -/
import Derived.Test.YtmecnjhjlhpehaaDoorPlJr
import Derived.Test.YtmecnjhjlhpehaaDoorQJt1
namespace Go.Proofs.YtmecnjhjlhpehaaDoor.Plain
set_option linter.unusedVariables false
set_option linter.unusedSimpArgs false
open Go.RowKit Go.Proofs.YtmecnjhjlhpehaaDoor.Q Go.Proofs.YtmecnjhjlhpehaaDoorW.PrintWords
def countF : Nat → S25 → Nat
  | 0, _ => 0
  | d + 1, x => 1 + (x.f4.map (countF d)).sum
theorem sum_mono {α : Type} (f g : α → Nat) (h : ∀ a, f a ≤ g a) : ∀ l : List α, (l.map f).sum ≤ (l.map g).sum
  | [] => by simp
  | a :: l => by
    have := sum_mono f g h l
    have := h a
    simp only [List.map_cons, List.sum_cons]
    omega
theorem count_le : ∀ (d : Nat) (x : S25), countF d x ≤ bulkF d x
  | 0, x => by simp [countF, bulkF]
  | d + 1, x => by
    have := sum_mono (countF d) (bulkF d) (count_le d) x.f4
    simp only [countF, bulkF]
    omega
theorem first_zero {f : S25 → Int} : ∀ {l : List S25}, firstF f l = 0 → ∀ x ∈ l, f x = 0
  | [], _, x, hx => by cases hx
  | a :: l, h, x, hx => by
    simp only [firstF] at h
    by_cases h0 : f a = 0
    · rw [if_pos h0] at h
      rcases List.mem_cons.1 hx with rfl | hx
      · exact h0
      · exact first_zero h x hx
    · rw [if_neg h0] at h
      exact absurd h h0
theorem fault_parts {d : Nat} {x : S25} (h : faultF (d + 1) x = 0) : headF x = 0 ∧ ∀ p ∈ x.f4, faultF d p = 0 := by
  simp only [faultF] at h
  by_cases h0 : headF x = 0
  · rw [if_pos h0] at h
    exact ⟨h0, first_zero h⟩
  · rw [if_neg h0] at h
    exact absurd h h0
theorem count_tail (d : Nat) (l : List S25) (hb : l.length ≤ 1000000000) (hs : (l.map (countF d)).sum ≤ 1000000000) (ih : ∀ p ∈ l, Ev (fun n => json_count.f n p.f0 p.f1 p.f2 p.f3 p.f4) ((countF d p : Nat) : Int)) : ∀ (m i : Nat) (a : Nat), i + m = l.length → a + ((l.drop i).map (countF d)).sum ≤ 2000000000 → Ev (fun n => json_count.l0 n (a : Int) l (l.length : Int) (i : Int)) ((a + ((l.drop i).map (countF d)).sum : Nat) : Int)
  | 0, i, a, hi, _ => by
    rw [List.drop_of_length_le (by omega)]
    exact Ev.step (fun k => rfl) (Ev.neg (by omega) (Ev.now _))
  | m + 1, i, a, hi, ha => by
    have hlt : i < l.length := by omega
    have e2 : wrap64 ((i : Int) + 1) = ((i + 1 : Nat) : Int) := wrap_succ (by omega)
    rw [List.drop_eq_getElem_cons hlt] at ha ⊢
    simp only [List.map_cons, List.sum_cons] at ha ⊢
    have e3 : wrap64 ((a : Int) + (countF d l[i] : Nat)) = ((a + countF d l[i] : Nat) : Int) := by rw [wrap_in (by omega) (by omega)]; omega
    refine Ev.step (fun k => rfl) (Ev.pos (by omega) (Ev.pos (by omega) (Ev.pos (by omega) ?_)))
    rw [e2, rd25 hlt]
    refine Ev.bind (ih _ (List.getElem_mem hlt)) ?_
    rw [e3, ← Nat.add_assoc]
    exact count_tail d l hb hs ih m (i + 1) (a + countF d l[i]) (by omega) (by omega)
theorem count_ev : ∀ (d : Nat) (x : S25), faultF d x = 0 → bulkF d x ≤ 1000000000 → Ev (fun n => json_count.f n x.f0 x.f1 x.f2 x.f3 x.f4) ((countF d x : Nat) : Int)
  | 0, x, hf, _ => absurd hf (by simp [faultF])
  | d + 1, x, hf, hb => by
    obtain ⟨_, h3, h4, hp⟩ := bulk_parts hb
    obtain ⟨_, hz⟩ := fault_parts hf
    have hc : (x.f4.map (countF d)).sum ≤ 1000000000 := by
      have := count_le (d + 1) x
      simp only [countF] at this
      omega
    have h := count_tail d x.f4 h4 hc (fun p hpm => count_ev d p (hz p hpm) (hp p hpm)) x.f4.length 0 1 (by omega) (by rw [List.drop_zero]; omega)
    rw [List.drop_zero] at h
    exact Ev.step (fun _ => rfl) h
theorem rcount_tail (c e : S25 → Nat) (hce : ∀ p, c p = 1 + e p) (l : List S25) (hb : l.length ≤ 1000000000) (ih : ∀ p ∈ l, Ev (fun n => bagnallref_jsonCount.f n p.f4) ((e p : Nat) : Int)) : ∀ (m i : Nat) (a : Nat), i + m = l.length → a + ((l.drop i).map c).sum ≤ 2000000000 → Ev (fun n => bagnallref_jsonCount.l0 n (a : Int) l (l.length : Int) (i : Int)) ((a + ((l.drop i).map c).sum : Nat) : Int)
  | 0, i, a, hi, _ => by
    rw [List.drop_of_length_le (by omega)]
    exact Ev.step (fun k => rfl) (Ev.neg (by omega) (Ev.now _))
  | m + 1, i, a, hi, ha => by
    have hlt : i < l.length := by omega
    have e2 : wrap64 ((i : Int) + 1) = ((i + 1 : Nat) : Int) := wrap_succ (by omega)
    rw [List.drop_eq_getElem_cons hlt] at ha ⊢
    simp only [List.map_cons, List.sum_cons] at ha ⊢
    have e4 := hce l[i]
    have e5 : wrap64 (1 + ((e l[i] : Nat) : Int)) = ((c l[i] : Nat) : Int) := by rw [wrap_in (by omega) (by omega)]; omega
    have e3 : wrap64 ((a : Int) + ((c l[i] : Nat) : Int)) = ((a + c l[i] : Nat) : Int) := by rw [wrap_in (by omega) (by omega)]; omega
    refine Ev.step (fun k => rfl) (Ev.pos (by omega) (Ev.pos (by omega) (Ev.pos (by omega) ?_)))
    rw [e2, rd25 hlt]
    refine Ev.bind (ih _ (List.getElem_mem hlt)) ?_
    rw [e5, e3, ← Nat.add_assoc]
    exact rcount_tail c e hce l hb ih m (i + 1) (a + c l[i]) (by omega) (by omega)
theorem rcount_ev : ∀ (d : Nat) (l : List S25), (∀ p ∈ l, faultF d p = 0) → (∀ p ∈ l, bulkF d p ≤ 1000000000) → l.length ≤ 1000000000 → (l.map (countF d)).sum ≤ 1000000000 → Ev (fun n => bagnallref_jsonCount.f n l) (((l.map (countF d)).sum : Nat) : Int)
  | 0, l, hf, _, _, _ => by
    cases l with
    | nil =>
      have h0 : Ev (fun n => bagnallref_jsonCount.l0 n 0 [] 0 0) 0 := Ev.step (fun k => rfl) (Ev.neg (by omega) (Ev.now _))
      exact Ev.step (fun _ => rfl) h0
    | cons p l => exact absurd (hf p (by simp)) (by simp [faultF])
  | d + 1, l, hf, hb, hl, hs => by
    have h := rcount_tail (countF (d + 1)) (fun p => (p.f4.map (countF d)).sum) (fun p => by simp only [countF]) l hl (fun p hp => by
      obtain ⟨_, h3, h4, hq⟩ := bulk_parts (hb p hp)
      refine rcount_ev d p.f4 (fault_parts (hf p hp)).2 hq h4 ?_
      have h1 := count_le (d + 1) p
      have h2 := hb p hp
      simp only [countF] at h1
      generalize (p.f4.map (countF d)).sum = C at *
      generalize bulkF (d + 1) p = B at *
      omega) l.length 0 0 (by omega) (by
        rw [List.drop_zero]
        generalize (l.map (countF (d + 1))).sum = C at *
        omega)
    rw [List.drop_zero, Nat.zero_add] at h
    exact Ev.step (fun _ => rfl) h
end Go.Proofs.YtmecnjhjlhpehaaDoor.Plain
