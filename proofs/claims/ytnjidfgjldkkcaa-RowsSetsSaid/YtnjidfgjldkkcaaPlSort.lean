/- Plain laws of tables in the order of their keys: what a table without a fault is; where a key stands; the binary search. -/
import Derived.Test.YtnjidfgjldkkcaaPlRows
import Derived.Test.YtnjidfgjldkkcaaPlStr
import Derived.Test.YtnjidfgjldkkcaaQBs
namespace Go.Proofs.Ytnjidfgjldkkcaa.Plain
open Go.RowKit Go.Proofs.Ytnjidfgjldkkcaa.Q Go.Proofs.YtnjidfgjldkkcaaW.PrintWords

/-- One key ahead of another one. -/
def kl (a b : ByteArray) : Bool := Op.bytesLess a.toList b.toList
theorem less_irr : ∀ x : List UInt8, Op.bytesLess x x = false
  | [] => rfl
  | a :: x => by
    have := less_irr x
    have h : ¬ a < a := fun h => by have := UInt8.lt_iff_toNat_lt.1 h; omega
    simp [Op.bytesLess, this]
theorem less_trans : ∀ x y z : List UInt8, Op.bytesLess x y = true → Op.bytesLess y z = true → Op.bytesLess x z = true
  | _, _, [], _, h => by cases ‹List UInt8› <;> simp [Op.bytesLess] at h
  | _, [], _ :: _, h, _ => by cases ‹List UInt8› <;> simp [Op.bytesLess] at h
  | [], _ :: _, _ :: _, _, _ => by simp [Op.bytesLess]
  | a :: x, b :: y, c :: z, h1, h2 => by
    simp only [Op.bytesLess, Bool.or_eq_true, Bool.and_eq_true, decide_eq_true_eq, beq_iff_eq] at h1 h2 ⊢
    rcases h1 with h1 | ⟨rfl, h1⟩
    · rcases h2 with h2 | ⟨rfl, h2⟩
      · exact .inl (UInt8.lt_iff_toNat_lt.2 (by have := UInt8.lt_iff_toNat_lt.1 h1; have := UInt8.lt_iff_toNat_lt.1 h2; omega))
      · exact .inl h1
    · rcases h2 with h2 | ⟨rfl, h2⟩
      · exact .inl h2
      · exact .inr ⟨rfl, less_trans x y z h1 h2⟩
theorem kl_irr (a : ByteArray) : kl a a = false := less_irr _
theorem kl_trans {a b c : ByteArray} (h1 : kl a b = true) (h2 : kl b c = true) : kl a c = true := less_trans _ _ _ h1 h2
theorem kl_asym {a b : ByteArray} (h : kl a b = true) : kl b a = false := by
  cases h2 : kl b a
  · rfl
  · have := kl_trans h h2
    rw [kl_irr] at this
    cases this
theorem kl_tri {a b : ByteArray} (h1 : kl a b = false) (h2 : kl b a = false) : a = b := by
  have := less_or a.toList b.toList
  unfold kl at h1 h2
  rw [h1, h2] at this
  simp only [Bool.false_or, Bool.not_false, beq_iff_eq] at this
  exact toList_inj.1 this

/-- A row that may be in a table. -/
def GoodRow (r : S69) : Prop := 1 ≤ r.f0.size ∧ r.f0.size ≤ 20 ∧ 1 ≤ r.f1.size ∧ r.f1.size ≤ 20
/-- The keys ascend. -/
def Asc (l : List S69) : Prop := l.Pairwise fun a b => kl a.f0 b.f0 = true
theorem fault_zero : ∀ (p : Option ByteArray) (l : List S69), faultFrom p l = 0 → (∀ r ∈ l, GoodRow r) ∧ Asc l ∧ (∀ q, p = some q → ∀ r ∈ l, kl q r.f0 = true)
  | p, [], _ => ⟨by simp, List.Pairwise.nil, by simp⟩
  | p, r :: t, h => by
    unfold faultFrom at h
    by_cases h1 : r.f0.size < 1 ∨ 20 < r.f0.size ∨ 20 < r.f1.size
    · rw [if_pos h1] at h; exact absurd h (by decide)
    rw [if_neg h1] at h
    by_cases h2 : r.f1.size = 0
    · rw [if_pos h2] at h; exact absurd h (by decide)
    rw [if_neg h2] at h
    have key : faultFrom (some r.f0) t = 0 ∧ ∀ q, p = some q → kl q r.f0 = true := by
      cases p with
      | none => exact ⟨h, by simp⟩
      | some q =>
        replace h : (if Op.bytesLess q.toList r.f0.toList = true then faultFrom (some r.f0) t else 7) = 0 := h
        by_cases h3 : Op.bytesLess q.toList r.f0.toList = true
        · rw [if_pos h3] at h
          exact ⟨h, fun q' e => by obtain rfl := Option.some.inj e; exact h3⟩
        · rw [if_neg h3] at h; exact absurd h (by decide)
    obtain ⟨g, a, c⟩ := fault_zero (some r.f0) t key.1
    refine ⟨?_, List.Pairwise.cons (fun x hx => c _ rfl x hx) a, ?_⟩
    · intro x hx
      rcases List.mem_cons.1 hx with rfl | hx
      · exact ⟨by omega, by omega, by omega, by omega⟩
      · exact g x hx
    · intro q hq x hx
      rcases List.mem_cons.1 hx with rfl | hx
      · exact key.2 q hq
      · exact kl_trans (key.2 q hq) (c _ rfl x hx)
theorem rowsErr_zero {l : List S69} (h : rowsErr l = 0) : l.length ≤ 40 ∧ (∀ r ∈ l, GoodRow r) ∧ Asc l := by
  unfold rowsErr at h
  split at h
  · cases h
  · have := fault_zero none l h
    exact ⟨by omega, this.1, this.2.1⟩

/-- How many keys are ahead of k. -/
def cut (l : List S69) (k : ByteArray) : Nat := (l.takeWhile fun r => kl r.f0 k).length
theorem cut_le (l : List S69) (k : ByteArray) : cut l k ≤ l.length := by
  induction l with
  | nil => simp [cut]
  | cons r t ih => unfold cut at *; rw [List.takeWhile_cons]; split <;> simp; omega
theorem cut_less {l : List S69} (ha : Asc l) (k : ByteArray) : ∀ (i : Nat) (h : i < l.length), (kl l[i].f0 k = true ↔ i < cut l k) := by
  induction l with
  | nil => intro i h; simp at h
  | cons r t ih =>
    intro i h
    have ht := ih (List.Pairwise.of_cons ha)
    have hr := (List.pairwise_cons.1 ha).1
    unfold cut at *
    rw [List.takeWhile_cons]
    cases hk : kl r.f0 k
    · simp only [Bool.false_eq_true, if_false, List.length_nil, Nat.not_lt_zero, iff_false]
      cases i with
      | zero => simp [hk]
      | succ i =>
        intro hc
        simp only [List.getElem_cons_succ] at hc
        have := kl_trans (hr _ (List.getElem_mem (by simpa using h))) hc
        rw [hk] at this
        cases this
    · rw [if_pos rfl]
      cases i with
      | zero => simp [hk]
      | succ i =>
        simp only [List.getElem_cons_succ, List.length_cons, Nat.add_lt_add_iff_right]
        exact ht i (by simpa using h)
theorem bs_cut (less : Nat → Bool) (p : Nat) : ∀ (f i j : Nat), (∀ h, i ≤ h → h < j → (less h = true ↔ h < p)) → i ≤ p → p ≤ j → j - i ≤ f → bs less f i j = p
  | 0, i, j, _, h1, h2, h3 => by show i = p; omega
  | f + 1, i, j, hl, h1, h2, h3 => by
    unfold bs
    by_cases hij : i < j
    · rw [if_pos hij]
      have hh := hl ((i + j) / 2) (by omega) (by omega)
      by_cases hb : less ((i + j) / 2) = true
      · rw [if_pos hb]
        have := hh.1 hb
        exact bs_cut less p f _ j (fun h a b => hl h (by omega) b) (by omega) h2 (by omega)
      · rw [if_neg hb]
        have : ¬ (i + j) / 2 < p := fun h => hb (hh.2 h)
        exact bs_cut less p f i _ (fun h a b => hl h a (by omega)) h1 (by omega) (by omega)
    · rw [if_neg hij]; omega
theorem cmpS_neg (a k : ByteArray) : cmpS a k < 0 ↔ kl a k = true := by
  unfold cmpS kl
  constructor
  · intro h
    split at h
    · assumption
    · split at h <;> omega
  · intro h
    rw [if_pos h]; omega
theorem cmpS_zero (a k : ByteArray) : cmpS a k = 0 ↔ a = k := by
  constructor
  · intro h
    unfold cmpS at h
    split at h
    · omega
    · split at h
      · omega
      · exact kl_tri (Bool.eq_false_iff.2 ‹_›) (Bool.eq_false_iff.2 ‹_›)
  · rintro rfl
    unfold cmpS
    have := kl_irr a
    unfold kl at this
    rw [this]
    simp
theorem placeI_cut {l : List S69} (ha : Asc l) (k : ByteArray) : placeI l k = cut l k := by
  refine bs_cut _ _ _ _ _ (fun h _ hh => ?_) (Nat.zero_le _) (cut_le l k) (by omega)
  unfold lessAt
  have e : l.getD h z69 = l[h] := by rw [List.getD_eq_getElem?_getD, List.getElem?_eq_getElem hh]; rfl
  rw [e, decide_eq_true_eq, cmpS_neg]
  exact cut_less ha k h hh
theorem placeB_iff {l : List S69} (ha : Asc l) (k : ByteArray) : placeB l k = true ↔ ∃ h : cut l k < l.length, l[cut l k].f0 = k := by
  unfold placeB
  rw [placeI_cut ha, Bool.and_eq_true, decide_eq_true_eq, decide_eq_true_eq, cmpS_zero]
  constructor
  · rintro ⟨h1, h2⟩
    have e : l.getD (cut l k) z69 = l[cut l k] := by rw [List.getD_eq_getElem?_getD, List.getElem?_eq_getElem h1]; rfl
    rw [e] at h2
    exact ⟨h1, h2⟩
  · rintro ⟨h1, h2⟩
    have e : l.getD (cut l k) z69 = l[cut l k] := by rw [List.getD_eq_getElem?_getD, List.getElem?_eq_getElem h1]; rfl
    rw [e]
    exact ⟨h1, h2⟩
/-- A key that stands there stands at its place. -/
theorem cut_at {l : List S69} (ha : Asc l) {i : Nat} (h : i < l.length) : cut l l[i].f0 = i := by
  have h1 := cut_less ha l[i].f0 i h
  rw [kl_irr] at h1
  simp only [Bool.false_eq_true, false_iff, Nat.not_lt] at h1
  rcases Nat.lt_or_ge (cut l l[i].f0) i with h2 | h2
  · have h3 := cut_less ha l[i].f0 (cut l l[i].f0) (by omega)
    have h4 : kl l[cut l l[i].f0].f0 l[i].f0 = true := List.pairwise_iff_getElem.1 ha _ _ (by omega) h h2
    have := h3.1 h4
    omega
  · omega
end Go.Proofs.Ytnjidfgjldkkcaa.Plain
