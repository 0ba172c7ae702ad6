/- The text of a value, and how long it is; a number's digits: plain. -/
import Derived.Test.YtmecnjhjlhpehaaDoorPlJc
import Derived.Lib.Join
import Derived.Lib.ItoaNum
import Derived.Lib.ItoaMem
namespace Go.Proofs.YtmecnjhjlhpehaaDoor.Plain
set_option linter.unusedVariables false
set_option linter.unusedSimpArgs false
open Go.RowKit Go.Proofs.YtmecnjhjlhpehaaDoor.Q Go.Proofs.YtmecnjhjlhpehaaDoorW.PrintWords
/-- What stands for the i-th part of an array or an object. -/
def itemF (x : S25) (T : S25 → List UInt8) (i : Nat) : List UInt8 :=
  (if x.f0 = 7 then (quoteF (x.f3.getD i ByteArray.empty)).data.toList ++ [58] else []) ++ T (x.f4.getD i z25)
/-- The first n parts. -/
def accT (x : S25) (T : S25 → List UInt8) (n : Nat) : List UInt8 := Lib.join ((List.range n).map (itemF x T)) [44]
/-- A value's text, down to a level. -/
def textF : Nat → S25 → List UInt8
  | 0, _ => []
  | d + 1, x => if x.f0 = 1 then [110, 117, 108, 108] else if x.f0 = 2 then [102, 97, 108, 115, 101] else if x.f0 = 3 then [116, 114, 117, 101] else if x.f0 = 4 then Lib.itoa x.f1 else if x.f0 = 5 then (quoteF x.f2).data.toList else if x.f0 = 6 then 91 :: accT x (textF d) x.f4.length ++ [93] else 123 :: accT x (textF d) x.f4.length ++ [125]
theorem join_snoc (a s : List UInt8) : ∀ l : List (List UInt8), l ≠ [] → Lib.join (l ++ [a]) s = Lib.join l s ++ s ++ a
  | [], h => absurd rfl h
  | b :: l, _ => by
    rw [List.cons_append, Lib.join_cons, Lib.join_cons]
    have h := Lib.joinTail_take_succ s (l ++ [a]) l.length a (by simp)
    rw [List.take_of_length_le (by simp)] at h
    rw [h]
    simp
theorem acc_zero (x : S25) (T : S25 → List UInt8) : accT x T 0 = [] := rfl
theorem acc_one (x : S25) (T : S25 → List UInt8) : accT x T 1 = itemF x T 0 := by
  unfold accT
  rw [show List.range 1 = [0] from rfl]
  exact Lib.join_one _ _
theorem acc_succ (x : S25) (T : S25 → List UInt8) (n : Nat) (h : 0 < n) : accT x T (n + 1) = accT x T n ++ [44] ++ itemF x T n := by
  unfold accT
  rw [List.range_succ, List.map_append]
  exact join_snoc _ _ _ (by simp; omega)
theorem size_quote (s : ByteArray) : (quoteF s).data.toList.length ≤ 6 * s.size + 2 := by
  have := quoteF_le s
  have e : (quoteF s).data.toList.length = (quoteF s).size := Array.length_toList
  omega
theorem nDigits_le {u : Nat} (h : u < 10 ^ 19) : Lib.nDigits u ≤ 20 := by
  by_cases h0 : u < 10
  · rw [Lib.nDigits_small h0]; omega
  · rcases Nat.lt_or_ge 20 (Lib.nDigits u) with h1 | h1
    · exfalso
      have h2 : 10 ^ (Lib.nDigits u - 1) ≤ u := by
        rcases Nat.lt_or_ge u (10 ^ (Lib.nDigits u - 1)) with h3 | h3
        · exfalso
          have key : ∀ (k v : Nat), v < 10 ^ k → 1 ≤ k → Lib.nDigits v ≤ k := by
            intro k
            induction k with
            | zero => intro v _ h; omega
            | succ k ih =>
              intro v hv _
              by_cases hs : v < 10
              · rw [Lib.nDigits_small hs]; omega
              · rw [Lib.nDigits_big hs]
                rw [Nat.pow_succ] at hv
                have hk : 1 ≤ k := by
                  rcases Nat.eq_zero_or_pos k with rfl | hk
                  · simp at hv; omega
                  · exact hk
                have := ih (v / 10) (by omega) hk
                omega
          have := key _ _ h3 (by omega)
          omega
        · exact h3
      have h3 : 10 ^ 19 ≤ 10 ^ (Lib.nDigits u - 1) := Nat.pow_le_pow_right (by decide) (by omega)
      omega
    · exact h1
theorem itoa_le {n : Int} (h0 : -9223372036854775808 ≤ n) (h1 : n ≤ 9223372036854775807) : (Lib.itoa n).length ≤ 21 := by
  have e : (10 : Nat) ^ 19 = 10000000000000000000 := by decide
  unfold Lib.itoa
  split
  · rw [List.length_cons, Lib.decDigits_length]
    have := nDigits_le (u := n.natAbs) (by rw [e]; omega)
    omega
  · rw [Lib.decDigits_length]
    have := nDigits_le (u := n.toNat) (by rw [e]; omega)
    omega
theorem acc_le (x : S25) (T : S25 → List UInt8) : ∀ n, (accT x T n).length ≤ ((List.range n).map fun i => (itemF x T i).length + 1).sum
  | 0 => by simp [acc_zero]
  | n + 1 => by
    rw [List.range_succ, List.map_append, List.sum_append]
    have h := acc_le x T n
    rcases Nat.eq_zero_or_pos n with rfl | hn
    · rw [acc_one]; simp
    · rw [acc_succ x T n hn]
      simp only [List.length_append, List.length_cons, List.length_nil, List.map_cons, List.map_nil, List.sum_cons, List.sum_nil]
      omega
theorem acc_mono (x : S25) (T : S25 → List UInt8) (n m : Nat) (h : n ≤ m) : (accT x T n).length ≤ (accT x T m).length := by
  induction m with
  | zero => rw [Nat.le_zero.1 h]; exact Nat.le_refl _
  | succ m ih =>
    rcases Nat.lt_or_ge n (m + 1) with h1 | h1
    · refine Nat.le_trans (ih (by omega)) ?_
      rcases Nat.eq_zero_or_pos m with rfl | hm
      · rw [acc_zero]; simp
      · rw [acc_succ x T m hm]; simp only [List.length_append]; omega
    · rw [show n = m + 1 from by omega]; exact Nat.le_refl _
theorem sum_range_getD {α : Type} (f : α → Nat) (z : α) (l : List α) : ((List.range l.length).map fun i => f (l.getD i z)).sum = (l.map f).sum := by
  congr 1
  apply List.ext_getElem
  · simp
  · intro i h1 h2
    simp only [List.length_map, List.length_range] at h1
    simp [List.getD_eq_getElem?_getD, List.getElem?_eq_getElem h1]
theorem sum_range_keys (l : List ByteArray) : ∀ n, ((List.range n).map fun i => (l.getD i ByteArray.empty).size).sum ≤ (l.map fun k => k.size + 1).sum := by
  have hz : ∀ n, l.length ≤ n → ((List.range n).map fun i => (l.getD i ByteArray.empty).size).sum = (l.map fun k => k.size).sum := by
    intro n
    induction n with
    | zero => intro h; rw [List.eq_nil_of_length_eq_zero (Nat.le_zero.1 h)]; simp
    | succ n ih =>
      intro h
      rcases Nat.lt_or_ge n l.length with h1 | h1
      · rw [show n + 1 = l.length from by omega]
        exact sum_range_getD (fun k : ByteArray => k.size) ByteArray.empty l
      · rw [List.range_succ, List.map_append, List.sum_append, ih h1]
        simp [List.getD_eq_getElem?_getD, List.getElem?_eq_none h1, ByteArray.size_empty]
  have hm : ∀ n m, n ≤ m → ((List.range n).map fun i => (l.getD i ByteArray.empty).size).sum ≤ ((List.range m).map fun i => (l.getD i ByteArray.empty).size).sum := by
    intro n m h
    induction m with
    | zero => rw [Nat.le_zero.1 h]; exact Nat.le_refl _
    | succ m ih =>
      rcases Nat.lt_or_ge n (m + 1) with h1 | h1
      · refine Nat.le_trans (ih (by omega)) ?_
        rw [List.range_succ, List.map_append, List.sum_append]
        omega
      · rw [show n = m + 1 from by omega]; exact Nat.le_refl _
  intro n
  refine Nat.le_trans (hm n (max n l.length) (by omega)) ?_
  rw [hz _ (by omega)]
  exact sum_mono _ _ (fun a => by omega) l
theorem sum_le_sum {f g : Nat → Nat} (h : ∀ i, f i ≤ g i) (l : List Nat) : (l.map f).sum ≤ (l.map g).sum := sum_mono f g h l
theorem sum_lin (f g h : Nat → Nat) (e : ∀ i, f i ≤ 6 * g i + h i) : ∀ l : List Nat, (l.map f).sum ≤ 6 * (l.map g).sum + (l.map h).sum
  | [] => by simp
  | a :: l => by
    have h1 := sum_lin f g h e l
    have h2 := e a
    simp only [List.map_cons, List.sum_cons]
    omega
/-- Is each number one that an int holds? down to a level. -/
def numsF : Nat → S25 → Prop
  | 0, _ => True
  | d + 1, x => (-9223372036854775808 ≤ x.f1 ∧ x.f1 ≤ 9223372036854775807) ∧ ∀ p ∈ x.f4, numsF d p
theorem acc_bulk (d : Nat) (x : S25) (h : ∀ p ∈ x.f4, (textF d p).length + 6 ≤ 20 * bulkF d p) : (accT x (textF d) x.f4.length).length + 80 ≤ 20 * bulkF (d + 1) x := by
  have hacc := acc_le x (textF d) x.f4.length
  have hitem : ((List.range x.f4.length).map fun i => (itemF x (textF d) i).length + 1).sum ≤ 6 * ((List.range x.f4.length).map fun i => (x.f3.getD i ByteArray.empty).size).sum + ((List.range x.f4.length).map fun i => (textF d (x.f4.getD i z25)).length + 4).sum := by
    refine sum_lin _ _ _ (fun i => ?_) _
    unfold itemF
    have hq := size_quote (x.f3.getD i ByteArray.empty)
    rw [List.length_append]
    split <;> simp only [List.length_append, List.length_cons, List.length_nil] <;> omega
  have hk := sum_range_keys x.f3 x.f4.length
  have ht : ((List.range x.f4.length).map fun i => (textF d (x.f4.getD i z25)).length + 4).sum ≤ 20 * (x.f4.map (bulkF d)).sum := by
    rw [sum_range_getD (fun p => (textF d p).length + 4) z25 x.f4]
    clear hk hitem hacc
    revert h
    generalize x.f4 = l0
    intro h
    induction l0 with
    | nil => simp
    | cons p l ihl =>
      have h3 := h p (List.mem_cons_self ..)
      have h4 := ihl (fun q hq => h q (List.mem_cons_of_mem _ hq))
      simp only [List.map_cons, List.sum_cons]
      omega
  simp only [bulkF]
  omega
theorem text_bulk : ∀ (d : Nat) (x : S25), numsF d x → (textF d x).length + 6 ≤ 20 * bulkF d x
  | 0, x, _ => by simp [textF, bulkF]
  | d + 1, x, h => by
    have hacc := acc_bulk d x (fun p hp => text_bulk d p (h.2 p hp))
    have hi := itoa_le h.1.1 h.1.2
    have hq := size_quote x.f2
    have hb : 120 + 20 * x.f2.size ≤ 20 * bulkF (d + 1) x := by simp only [bulkF]; omega
    simp only [textF]
    repeat' split
    all_goals (try simp only [List.length_append, List.length_cons, List.length_nil])
    all_goals omega
theorem nums_of_fault : ∀ (d : Nat) (x : S25), faultF d x = 0 → numsF d x
  | 0, _, _ => trivial
  | d + 1, x, h => by
    obtain ⟨hh, hp⟩ := fault_parts h
    refine ⟨?_, fun p hpm => nums_of_fault d p (hp p hpm)⟩
    unfold headF at hh
    split at hh
    · cases hh
    split at hh
    · cases hh
    split at hh
    · cases hh
    · omega
end Go.Proofs.YtmecnjhjlhpehaaDoor.Plain
