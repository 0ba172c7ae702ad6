/- Plain laws of values: their faults, how many they hold. -/
import Derived.Test.YtmecnjhjlhpehaaDoorPlQ
import Derived.Test.YtmecnjhjlhpehaaDoorEv
import Derived.Test.YtmecnjhjlhpehaaDoorQJa1
import Derived.Test.YtmecnjhjlhpehaaDoorQJa2
import Derived.Test.YtmecnjhjlhpehaaDoorQJs3
namespace Go.Proofs.YtmecnjhjlhpehaaDoor.Plain
set_option linter.unusedVariables false
set_option linter.unusedSimpArgs false
open Go.RowKit Go.Proofs.YtmecnjhjlhpehaaDoor.Q Go.Proofs.YtmecnjhjlhpehaaDoorW.PrintWords
/-- How much a value holds, down to a level. -/
def bulkF : Nat → S25 → Nat
  | 0, _ => 1
  | d + 1, x => 6 + x.f2.size + (x.f3.map fun k => k.size + 1).sum + (x.f4.map (bulkF d)).sum
/-- Do texts ascend, from the i-th on? -/
def ascI (l : List ByteArray) : Nat → Nat → Bool
  | 0, _ => true
  | d + 1, i => if 0 < i ∧ Op.bytesLess (l.getD (i - 1) ByteArray.empty).toList (l.getD i ByteArray.empty).toList = false then false else ascI l d (i + 1)
def plainF (x : S25) : Bool := plainN x.f0 x.f1 x.f2 x.f3.length x.f4.length
def headF (x : S25) : Int :=
  if x.f0 < 1 ∨ 7 < x.f0 then 3
  else if plainF x = false ∨ (x.f0 = 7 ∧ x.f3.length ≠ x.f4.length) ∨ ascI x.f3 x.f3.length 0 = false then 4
  else if 9007199254740992 ≤ x.f1 ∨ x.f1 ≤ -9007199254740992 then 2 else 0
def firstF (f : S25 → Int) : List S25 → Int
  | [] => 0
  | x :: l => if f x = 0 then firstF f l else f x
/-- A value's fault; so many levels are allowed. -/
def faultF : Nat → S25 → Int
  | 0, _ => 5
  | d + 1, x => if headF x = 0 then firstF (faultF d) x.f4 else headF x
theorem one_le_bulk (d : Nat) (x : S25) : 1 ≤ bulkF d x := by
  cases d with
  | zero => exact Nat.le_refl _
  | succ d => simp only [bulkF]; omega
theorem len_le_sum {α : Type} (f : α → Nat) (h : ∀ a, 1 ≤ f a) : ∀ l : List α, l.length ≤ (l.map f).sum
  | [] => by simp
  | a :: l => by
    have := len_le_sum f h l
    have := h a
    simp only [List.map_cons, List.sum_cons, List.length_cons]
    omega
theorem le_sum {α : Type} (f : α → Nat) : ∀ (l : List α) (a : α), a ∈ l → f a ≤ (l.map f).sum
  | [], _, h => by cases h
  | b :: l, a, h => by
    simp only [List.map_cons, List.sum_cons]
    rcases List.mem_cons.1 h with rfl | h
    · omega
    · have := le_sum f l a h
      omega
theorem bulk_parts {d : Nat} {x : S25} {B : Nat} (h : bulkF (d + 1) x ≤ B) : x.f2.size ≤ B ∧ x.f3.length ≤ B ∧ x.f4.length ≤ B ∧ ∀ p ∈ x.f4, bulkF d p ≤ B := by
  simp only [bulkF] at h
  have h1 := len_le_sum (fun k : ByteArray => k.size + 1) (fun _ => by omega) x.f3
  have h2 := len_le_sum (bulkF d) (one_le_bulk d) x.f4
  refine ⟨by omega, by omega, by omega, fun p hp => ?_⟩
  have := le_sum (bulkF d) x.f4 p hp
  omega
theorem rd25 {l : List S25} {i : Nat} (h : i < l.length) : rd_T25 l (i : Int) = l[i] := getD_at h
theorem rdS (l : List ByteArray) (i : Nat) : rdOf ByteArray.empty l (i : Int) = l.getD i ByteArray.empty := by
  unfold rdOf
  rw [Int.toNat_natCast]
theorem asc_l0 (l : List ByteArray) (hl : l.length ≤ 1000000000) : ∀ (d i : Nat), i + d = l.length → Ev (fun n => json_ascend.l0 n l l (l.length : Int) (i : Int)) (ascI l d i)
  | 0, i, hi => Ev.step (fun k => rfl) (Ev.neg (by omega) (Ev.now _))
  | d + 1, i, hi => by
    have e2 : wrap64 ((i : Int) + 1) = ((i + 1 : Nat) : Int) := wrap_succ (by omega)
    refine Ev.step (fun k => rfl) (Ev.pos (by omega) (Ev.pos (by omega) (Ev.pos (by omega) ?_)))
    have ih := asc_l0 l hl d (i + 1) (by omega)
    rw [e2]
    by_cases h0 : 0 < i
    · have e3 : wrap64 ((i : Int) - 1) = ((i - 1 : Nat) : Int) := by rw [wrap_in (by omega) (by omega)]; omega
      rw [e3]
      refine Ev.pos (by omega) (Ev.pos (by omega) (Ev.pos (by omega) ?_))
      rw [rdS, rdS]
      by_cases hb : Op.bytesLess (l.getD (i - 1) ByteArray.empty).toList (l.getD i ByteArray.empty).toList = true
      · refine Ev.pos hb (Ev.to ih ?_)
        show _ = ascI l (d + 1) i
        rw [ascI, if_neg (by rw [hb]; simp)]
      · refine Ev.neg hb (Ev.to (Ev.now _) ?_)
        show _ = ascI l (d + 1) i
        rw [ascI, if_pos ⟨h0, by simpa using hb⟩]
    · refine Ev.neg (by omega) (Ev.to ih ?_)
      show _ = ascI l (d + 1) i
      rw [ascI, if_neg (by omega)]
theorem asc_ev (l : List ByteArray) (hl : l.length ≤ 1000000000) : Ev (fun n => json_ascend.f n l) (ascI l l.length 0) := by
  unfold json_ascend.f
  exact asc_l0 l hl l.length 0 (by omega)
/-- What json.fault does behind its first looks. -/
theorem fault_tail (d : Nat) (x : S25) (hd : d < 6) (hb : x.f4.length ≤ 1000000000) (ih : ∀ p ∈ x.f4, Ev (fun n => json_fault.f n p.f0 p.f1 p.f2 p.f3 p.f4 (6 - (d : Int))) (faultF d p)) : ∀ (m i : Nat), i + m = x.f4.length → Ev (fun n => json_fault.l0 n (6 - ((d + 1 : Nat) : Int)) x.f4 (x.f4.length : Int) (i : Int)) (firstF (faultF d) (x.f4.drop i))
  | 0, i, hi => by
    rw [List.drop_of_length_le (by omega)]
    exact Ev.step (fun k => rfl) (Ev.neg (by omega) (Ev.now _))
  | m + 1, i, hi => by
    have hlt : i < x.f4.length := by omega
    have e2 : wrap64 ((i : Int) + 1) = ((i + 1 : Nat) : Int) := wrap_succ (by omega)
    have e3 : wrap64 (6 - ((d + 1 : Nat) : Int) + 1) = 6 - (d : Int) := by rw [wrap_in (by omega) (by omega)]; omega
    refine Ev.step (fun k => rfl) (Ev.pos (by omega) (Ev.pos (by omega) (Ev.pos (by omega) ?_)))
    rw [e2, e3, rd25 hlt, List.drop_eq_getElem_cons hlt]
    refine Ev.bind (ih _ (List.getElem_mem hlt)) ?_
    simp only [firstF]
    by_cases h0 : faultF d x.f4[i] = 0
    · rw [if_pos h0]
      exact Ev.pos h0 (fault_tail d x hd hb ih m (i + 1) (by omega))
    · rw [if_neg h0]
      exact Ev.neg h0 (Ev.now _)
theorem Ev.ite {α : Type} {c : Prop} [Decidable c] {g f : Nat → Option α} {r q : α} (h1 : Ev g r) (h2 : Ev f q) : Ev (fun k => if c then g k else f k) (if c then r else q) := by
  by_cases h : c
  · rw [if_pos h]; exact Ev.pos h h1
  · rw [if_neg h]; exact Ev.neg h h2
/-- What is told behind the look at a value's form. -/
def lateF (x : S25) (t : Int) (b : Bool) : Int := if b = true then 4 else if x.f1 ≥ 9007199254740992 then 2 else if x.f1 ≤ (-9007199254740992) then 2 else t
theorem j1_ev (a1 : Int) (x : S25) (t : Int) (htl : Ev (fun n => json_fault.l0 n a1 x.f4 (x.f4.length : Int) 0) t) (b : Bool) : Ev (fun n => json_fault.j1 n a1 b x.f0 x.f1 x.f2 x.f3 x.f4) (lateF x t b) :=
  Ev.step (fun _ => rfl) (Ev.ite (Ev.now _) (Ev.ite (Ev.now _) (Ev.ite (Ev.now _) htl)))
def formF (x : S25) (t : Int) : Int := if plainF x = true then (if x.f0 = 7 then (if (x.f3.length : Int) = (x.f4.length : Int) then lateF x t (!(ascI x.f3 x.f3.length 0)) else lateF x t ((x.f3.length : Int) != (x.f4.length : Int))) else lateF x t (!(ascI x.f3 x.f3.length 0))) else lateF x t (!(plainF x))
theorem j0_ev (a1 : Int) (x : S25) (h3 : x.f3.length ≤ 1000000000) (t : Int) (htl : Ev (fun n => json_fault.l0 n a1 x.f4 (x.f4.length : Int) 0) t) (b : Bool) : Ev (fun n => json_fault.j0 n a1 b x.f0 x.f1 x.f2 x.f3 x.f4) (if b = true then 3 else formF x t) :=
  Ev.step (fun _ => rfl) (Ev.ite (Ev.now _) (Ev.bind (Ev.lift rfl) (Ev.ite (Ev.ite (Ev.ite (Ev.bind (asc_ev x.f3 h3) (j1_ev a1 x t htl _)) (j1_ev a1 x t htl _)) (Ev.bind (asc_ev x.f3 h3) (j1_ev a1 x t htl _))) (j1_ev a1 x t htl _))))
theorem form_eq (x : S25) (t : Int) : (if headF x = 0 then t else headF x) = (if x.f0 < 1 then 3 else if 7 < x.f0 then 3 else formF x t) := by
  unfold headF formF lateF
  obtain ⟨A, hA⟩ : ∃ A, A = ascI x.f3 x.f3.length 0 := ⟨_, rfl⟩
  rw [← hA]
  clear hA
  by_cases h1 : x.f0 < 1
  · simp [h1]
  by_cases h2 : 7 < x.f0
  · simp [h1, h2]
  by_cases h3 : plainF x = true
  · by_cases h7 : (9007199254740992 : Int) ≤ x.f1
    · by_cases h4 : x.f0 = 7
      · by_cases h5 : x.f3.length = x.f4.length
        · cases A <;> simp [h3, h4, h5, h7]
        · have h5' : ¬ (x.f3.length : Int) = (x.f4.length : Int) := by omega
          simp [h3, h4, h5, h5']
      · cases A <;> simp [h1, h2, h3, h4, h7]
    · by_cases h8 : x.f1 ≤ -9007199254740992
      · by_cases h4 : x.f0 = 7
        · by_cases h5 : x.f3.length = x.f4.length
          · cases A <;> simp [h3, h4, h5, h7, h8]
          · have h5' : ¬ (x.f3.length : Int) = (x.f4.length : Int) := by omega
            simp [h3, h4, h5, h5']
        · cases A <;> simp [h1, h2, h3, h4, h7, h8]
      · by_cases h4 : x.f0 = 7
        · by_cases h5 : x.f3.length = x.f4.length
          · cases A <;> simp [h3, h4, h5, h7, h8]
          · have h5' : ¬ (x.f3.length : Int) = (x.f4.length : Int) := by omega
            simp [h3, h4, h5, h5']
        · cases A <;> simp [h1, h2, h3, h4, h7, h8]
  · simp [h1, h2, h3]
theorem fault_ev : ∀ (d : Nat) (x : S25), d ≤ 6 → bulkF d x ≤ 1000000000 → Ev (fun n => json_fault.f n x.f0 x.f1 x.f2 x.f3 x.f4 (6 - (d : Int))) (faultF d x)
  | 0, x, _, _ => Ev.step (f := fun _ => some 5) (fun k => by simp [json_fault.f]) (Ev.now _)
  | d + 1, x, hd, hb => by
    obtain ⟨_, h3, h4, hp⟩ := bulk_parts hb
    have htl := fault_tail d x (by omega) h4 (fun p hpm => fault_ev d p (by omega) (hp p hpm)) x.f4.length 0 (by omega)
    rw [List.drop_zero] at htl
    refine Ev.to (Ev.step (fun k => rfl) (Ev.neg (by omega) (Ev.ite (j0_ev _ x h3 _ htl true) (j0_ev _ x h3 _ htl (decide (x.f0 > 7)))))) ?_
    show _ = (if headF x = 0 then firstF (faultF d) x.f4 else headF x)
    rw [form_eq]
    by_cases h1 : x.f0 < 1
    · simp [h1]
    · by_cases h2 : 7 < x.f0 <;> simp [h1, h2]
end Go.Proofs.YtmecnjhjlhpehaaDoor.Plain
