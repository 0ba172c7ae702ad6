/- The reference's faults are the same: plain. -/
import Derived.Test.YtmecnjhjlhpehaaDoorPlJs
namespace Go.Proofs.YtmecnjhjlhpehaaDoor.Plain
set_option linter.unusedVariables false
set_option linter.unusedSimpArgs false
open Go.RowKit Go.Proofs.YtmecnjhjlhpehaaDoor.Q Go.Proofs.YtmecnjhjlhpehaaDoorW.PrintWords
theorem rfault_tail (d : Nat) (x : S25) (hd : d < 6) (hb : x.f4.length ≤ 1000000000) (ih : ∀ p ∈ x.f4, Ev (fun n => bagnallref_jsonFault.f n p.f0 p.f1 p.f2 p.f3 p.f4 (6 - (d : Int))) (faultF d p)) : ∀ (m i : Nat), i + m = x.f4.length → Ev (fun n => bagnallref_jsonFault.l1 n (6 - ((d + 1 : Nat) : Int)) x.f4 (x.f4.length : Int) (i : Int)) (firstF (faultF d) (x.f4.drop i))
  | 0, i, hi => by
    rw [List.drop_of_length_le (by omega)]
    exact Ev.step (fun k => rfl) (Ev.neg (by omega) (Ev.now _))
  | m + 1, i, hi => by
    have hlt : i < x.f4.length := by omega
    have e2 : wrap64 ((i : Int) + 1) = ((i + 1 : Nat) : Int) := wrap_succ (by omega)
    have e3 : wrap64 (6 - ((d + 1 : Nat) : Int) + 1) = 6 - (d : Int) := by rw [wrap_in (by omega) (by omega)]; omega
    refine Ev.step (fun k => rfl) (Ev.pos (by omega) (Ev.pos (by omega) (Ev.pos (by omega) ?_)))
    rw [e2, e3, rd25 hlt, List.drop_eq_getElem_cons hlt]
    refine Ev.bind (ih _ (List.getElem_mem hlt)) ?_
    simp only [firstF]
    by_cases h0 : faultF d x.f4[i] = 0
    · rw [if_pos h0]
      exact Ev.pos h0 (rfault_tail d x hd hb ih m (i + 1) (by omega))
    · rw [if_neg h0]
      exact Ev.neg h0 (Ev.now _)
/-- Behind the looks at form: the number. -/
def rlate (x : S25) (t : Int) : Int := if x.f1 > 9007199254740991 then 2 else if x.f1 < (-9007199254740991) then 2 else t
theorem rj4_ev (a1 : Int) (x : S25) (t : Int) (htl : Ev (fun n => bagnallref_jsonFault.l1 n a1 x.f4 (x.f4.length : Int) 0) t) (b : Bool) : Ev (fun n => bagnallref_jsonFault.j4 n a1 b x.f0 x.f1 x.f2 x.f3 x.f4) (if b = true then 2 else t) :=
  Ev.step (fun _ => rfl) (Ev.ite (Ev.now _) htl)
theorem rl0_ev (a1 : Int) (x : S25) (h3 : x.f3.length ≤ 1000000000) (t : Int) (htl : Ev (fun n => bagnallref_jsonFault.l1 n a1 x.f4 (x.f4.length : Int) 0) t) : ∀ (m i : Nat), 1 ≤ i → i + m = max 1 x.f3.length → Ev (fun n => bagnallref_jsonFault.l0 n a1 (i : Int) x.f0 x.f1 x.f2 x.f3 x.f4) (if ascI x.f3 m i = true then rlate x t else 4)
  | 0, i, h1, hi => by
    refine Ev.to (Ev.step (fun _ => rfl) (Ev.neg (by omega) (Ev.ite (rj4_ev a1 x t htl true) (rj4_ev a1 x t htl (decide (x.f1 < (-9007199254740991))))))) ?_
    simp only [ascI, rlate]
    by_cases h1 : x.f1 > 9007199254740991
    · simp [h1]
    · by_cases h2 : x.f1 < -9007199254740991 <;> simp [h1, h2]
  | m + 1, i, h1, hi => by
    have hlt : i < x.f3.length := by omega
    have e2 : wrap64 ((i : Int) + 1) = ((i + 1 : Nat) : Int) := wrap_succ (by omega)
    have e3 : wrap64 ((i : Int) - 1) = ((i - 1 : Nat) : Int) := by rw [wrap_in (by omega) (by omega)]; omega
    refine Ev.step (fun k => rfl) (Ev.pos (by omega) ?_)
    rw [e2, e3, rdS, rdS]
    refine Ev.pos (by omega) (Ev.pos (by omega) (Ev.pos (by omega) ?_))
    have ih := rl0_ev a1 x h3 t htl m (i + 1) (by omega) (by omega)
    by_cases hb : Op.bytesLess (x.f3.getD (i - 1) ByteArray.empty).toList (x.f3.getD i ByteArray.empty).toList = true
    · have e4 : ascI x.f3 (m + 1) i = ascI x.f3 m (i + 1) := by rw [ascI, if_neg (by rw [hb]; simp)]
      rw [e4]
      exact Ev.pos hb ih
    · have e4 : ascI x.f3 (m + 1) i = false := by rw [ascI, if_pos ⟨by omega, by simpa using hb⟩]
      rw [e4]
      exact Ev.neg hb (Ev.now _)
/-- Texts ascend from the first on, or from the second. -/
theorem asc_one (l : List ByteArray) : ascI l l.length 0 = ascI l (l.length - 1) 1 := by
  cases l with
  | nil => rfl
  | cons a l =>
    show ascI (a :: l) (l.length + 1) 0 = _
    rw [ascI, if_neg (by omega)]
    rfl
def rform (x : S25) (t : Int) (b : Bool) : Int := if b = true then 4 else (if ascI x.f3 x.f3.length 0 = true then rlate x t else 4)
theorem rj2_ev (a1 : Int) (x : S25) (h3 : x.f3.length ≤ 1000000000) (t : Int) (htl : Ev (fun n => bagnallref_jsonFault.l1 n a1 x.f4 (x.f4.length : Int) 0) t) (b : Bool) : Ev (fun n => bagnallref_jsonFault.j2 n a1 b x.f0 x.f1 x.f2 x.f3 x.f4) (rform x t b) := by
  have h := rl0_ev a1 x h3 t htl (x.f3.length - 1) 1 (by omega) (by omega)
  rw [← asc_one] at h
  exact Ev.step (fun _ => rfl) (Ev.ite (Ev.now _) h)
def rmid (x : S25) (t : Int) (b : Bool) : Int := if b = true then 4 else (if x.f0 = 7 then rform x t ((x.f3.length : Int) != (x.f4.length : Int)) else (if x.f0 = 6 then rform x t false else (if (x.f4.length : Int) > 0 then rform x t true else rform x t false)))
theorem rj1_ev (a1 : Int) (x : S25) (h3 : x.f3.length ≤ 1000000000) (t : Int) (htl : Ev (fun n => bagnallref_jsonFault.l1 n a1 x.f4 (x.f4.length : Int) 0) t) (b : Bool) : Ev (fun n => bagnallref_jsonFault.j1 n a1 b x.f0 x.f1 x.f2 x.f3 x.f4) (rmid x t b) :=
  Ev.step (fun _ => rfl) (Ev.ite (Ev.now _) (Ev.ite (rj2_ev a1 x h3 t htl _) (Ev.ite (rj2_ev a1 x h3 t htl _) (Ev.ite (rj2_ev a1 x h3 t htl _) (rj2_ev a1 x h3 t htl _)))))
def rtop (x : S25) (t : Int) : Int :=
  let Y := if x.f0 = 7 then rmid x t false else rmid x t (decide ((x.f3.length : Int) > 0))
  let Z := if x.f0 = 5 then Y else (if x.f2.toList = ([] : List UInt8) then Y else rmid x t true)
  if x.f0 = 4 then Z else (if x.f1 = 0 then Z else rmid x t true)
theorem rj0_ev (a1 : Int) (x : S25) (h3 : x.f3.length ≤ 1000000000) (t : Int) (htl : Ev (fun n => bagnallref_jsonFault.l1 n a1 x.f4 (x.f4.length : Int) 0) t) (b : Bool) : Ev (fun n => bagnallref_jsonFault.j0 n a1 b x.f0 x.f1 x.f2 x.f3 x.f4) (if b = true then 3 else rtop x t) := by
  have J := rj1_ev a1 x h3 t htl
  have Y := Ev.ite (c := x.f0 = 7) (J false) (J (decide ((x.f3.length : Int) > 0)))
  have Z := Ev.ite (c := x.f0 = 5) Y (Ev.ite (c := x.f2.toList = ([] : List UInt8)) Y (J true))
  exact Ev.step (fun _ => rfl) (Ev.ite (Ev.now _) (Ev.ite Z (Ev.ite Z (J true))))
theorem rtop_eq (x : S25) (t : Int) : (if headF x = 0 then t else headF x) = (if x.f0 < 1 then 3 else if 7 < x.f0 then 3 else rtop x t) := by
  unfold headF rtop rmid rform rlate plainF plainN
  obtain ⟨A, hA⟩ : ∃ A, A = ascI x.f3 x.f3.length 0 := ⟨_, rfl⟩
  rw [← hA]
  clear hA
  obtain ⟨a, b, c, l, m⟩ := x
  simp only
  have hl : l = [] ↔ l.length = 0 := List.eq_nil_iff_length_eq_zero
  generalize l.length = n3
  generalize m.length = n4
  by_cases h1 : a < 1
  · simp [h1]
  by_cases h2 : 7 < a
  · simp [h1, h2]
  have ha : a = 1 ∨ a = 2 ∨ a = 3 ∨ a = 4 ∨ a = 5 ∨ a = 6 ∨ a = 7 := by omega
  have e7 : (b > 9007199254740991) = (9007199254740992 ≤ b) := propext (by omega)
  have e8 : (b < -9007199254740991) = (b ≤ -9007199254740992) := propext (by omega)
  have e9 : ((n3 : Int) != (n4 : Int)) = decide (n3 ≠ n4) := by
    by_cases h : n3 = n4
    · subst h; simp
    · have h' : ¬ (n3 : Int) = (n4 : Int) := by omega
      simp [h, h']
  have e10 : decide ((n3 : Int) > 0) = decide (n3 ≠ 0) := decide_eq_decide.2 (by omega)
  have e11 : ((n4 : Int) > 0) = (n4 ≠ 0) := propext (by omega)
  simp only [e7, e8, e9, e10, e11]
  clear e7 e8 e9 e10 e11 hl h1 h2
  by_cases h7 : (9007199254740992 : Int) ≤ b
  · have hb : ¬ b = 0 := by omega
    rcases ha with rfl | rfl | rfl | rfl | rfl | rfl | rfl <;> by_cases hc : c.toList = [] <;> by_cases h3 : n3 = 0 <;> by_cases h4 : n4 = 0 <;> by_cases h5 : n3 = n4 <;> cases A <;> simp [*] <;> simp_all
  · by_cases h8 : b ≤ -9007199254740992
    · have hb : ¬ b = 0 := by omega
      rcases ha with rfl | rfl | rfl | rfl | rfl | rfl | rfl <;> by_cases hc : c.toList = [] <;> by_cases h3 : n3 = 0 <;> by_cases h4 : n4 = 0 <;> by_cases h5 : n3 = n4 <;> cases A <;> simp [*] <;> simp_all
    · rcases ha with rfl | rfl | rfl | rfl | rfl | rfl | rfl <;> by_cases hb : b = 0 <;> by_cases hc : c.toList = [] <;> by_cases h3 : n3 = 0 <;> by_cases h4 : n4 = 0 <;> by_cases h5 : n3 = n4 <;> cases A <;> simp [*] <;> simp_all
theorem rfault_ev : ∀ (d : Nat) (x : S25), d ≤ 6 → bulkF d x ≤ 1000000000 → Ev (fun n => bagnallref_jsonFault.f n x.f0 x.f1 x.f2 x.f3 x.f4 (6 - (d : Int))) (faultF d x)
  | 0, x, _, _ => Ev.step (f := fun _ => some 5) (fun k => by simp [bagnallref_jsonFault.f]) (Ev.now _)
  | d + 1, x, hd, hb => by
    obtain ⟨_, h3, h4, hp⟩ := bulk_parts hb
    have htl := rfault_tail d x (by omega) h4 (fun p hpm => rfault_ev d p (by omega) (hp p hpm)) x.f4.length 0 (by omega)
    rw [List.drop_zero] at htl
    refine Ev.to (Ev.step (fun k => rfl) (Ev.neg (by omega) (Ev.ite (rj0_ev _ x h3 _ htl true) (rj0_ev _ x h3 _ htl (decide (x.f0 > 7)))))) ?_
    show _ = (if headF x = 0 then firstF (faultF d) x.f4 else headF x)
    rw [rtop_eq]
    by_cases h1 : x.f0 < 1
    · simp [h1]
    · by_cases h2 : 7 < x.f0 <;> simp [h1, h2]
end Go.Proofs.YtmecnjhjlhpehaaDoor.Plain
