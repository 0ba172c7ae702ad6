/- The value without the two keys has no fault, is no greater; the reference's text of it is the same: plain. -/
import Derived.Test.YtmecnjhjlhpehaaDoorQWo
namespace Go.Proofs.YtmecnjhjlhpehaaDoor.Plain
set_option linter.unusedVariables false
set_option linter.unusedSimpArgs false
open Go.RowKit Go.Proofs.YtmecnjhjlhpehaaDoor.Q Go.Proofs.YtmecnjhjlhpehaaDoorW.PrintWords
theorem less_irr : ∀ x : List UInt8, Op.bytesLess x x = false
  | [] => rfl
  | a :: x => by
    have := less_irr x
    have h : ¬ a < a := fun h => by have := UInt8.lt_iff_toNat_lt.1 h; omega
    simp [Op.bytesLess, this]
theorem less_trans : ∀ x y z : List UInt8, Op.bytesLess x y = true → Op.bytesLess y z = true → Op.bytesLess x z = true
  | _, _, [], _, h => by cases ‹List UInt8› <;> simp [Op.bytesLess] at h
  | _, [], _ :: _, h, _ => by cases ‹List UInt8› <;> simp [Op.bytesLess] at h
  | [], _ :: _, _ :: _, _, _ => by simp [Op.bytesLess]
  | a :: x, b :: y, c :: z, h1, h2 => by
    simp only [Op.bytesLess, Bool.or_eq_true, Bool.and_eq_true, decide_eq_true_eq, beq_iff_eq] at h1 h2 ⊢
    rcases h1 with h1 | ⟨rfl, h1⟩
    · rcases h2 with h2 | ⟨rfl, h2⟩
      · exact .inl (UInt8.lt_iff_toNat_lt.2 (by have := UInt8.lt_iff_toNat_lt.1 h1; have := UInt8.lt_iff_toNat_lt.1 h2; omega))
      · exact .inl h1
    · rcases h2 with h2 | ⟨rfl, h2⟩
      · exact .inl h2
      · exact .inr ⟨rfl, less_trans x y z h1 h2⟩
/-- Texts ascend, said of every two neighbours. -/
theorem asc_iff (l : List ByteArray) : ∀ (d i : Nat), i + d = l.length → (ascI l d i = true ↔ ∀ j, i ≤ j → 0 < j → j < l.length → Op.bytesLess (l.getD (j - 1) ByteArray.empty).toList (l.getD j ByteArray.empty).toList = true)
  | 0, i, hi => by
    refine ⟨fun _ j h1 _ h2 => by omega, fun _ => rfl⟩
  | d + 1, i, hi => by
    have ih := asc_iff l d (i + 1) (by omega)
    rw [ascI]
    by_cases hc : 0 < i ∧ Op.bytesLess (l.getD (i - 1) ByteArray.empty).toList (l.getD i ByteArray.empty).toList = false
    · rw [if_pos hc]
      refine ⟨fun h => (by cases h), fun h => ?_⟩
      have := h i (Nat.le_refl _) hc.1 (by omega)
      rw [hc.2] at this
      cases this
    · rw [if_neg hc, ih]
      refine ⟨fun h j h1 h2 h3 => ?_, fun h j h1 h2 h3 => h j (by omega) h2 h3⟩
      rcases Nat.lt_or_ge i j with hij | hij
      · exact h j hij h2 h3
      · obtain rfl : j = i := by omega
        cases hb : Op.bytesLess (l.getD (j - 1) ByteArray.empty).toList (l.getD j ByteArray.empty).toList with
        | true => rfl
        | false => exact absurd ⟨h2, hb⟩ hc
def Asc (l : List ByteArray) : Prop := List.Pairwise (fun a b : ByteArray => Op.bytesLess a.toList b.toList = true) l
theorem asc_pair (l : List ByteArray) : ascI l l.length 0 = true ↔ Asc l := by
  rw [asc_iff l l.length 0 (by omega)]
  unfold Asc
  rw [List.pairwise_iff_getElem]
  refine ⟨fun h => ?_, fun h j _ h0 hj => ?_⟩
  · have key : ∀ (d i : Nat) (hd : i + d + 1 < l.length), Op.bytesLess (l[i]'(by omega)).toList (l[i + d + 1]'hd).toList = true := by
      intro d
      induction d with
      | zero =>
        intro i hd
        have := h (i + 1) (by omega) (by omega) hd
        rw [show i + 1 - 1 = i from by omega, getD_str (by omega), getD_str hd] at this
        exact this
      | succ d ih =>
        intro i hd
        have h1 := ih i (by omega)
        have h2 := h (i + (d + 1) + 1) (by omega) (by omega) hd
        rw [show i + (d + 1) + 1 - 1 = i + d + 1 from by omega, getD_str (by omega), getD_str hd] at h2
        exact less_trans _ _ _ h1 h2
    intro i j hi hj hij
    have := key (j - i - 1) i (by omega)
    simp only [show i + (j - i - 1) + 1 = j from by omega] at this
    exact this
  · rw [getD_str (by omega), getD_str hj]
    exact h (j - 1) j (by omega) hj (by omega)
theorem first_all {f : S25 → Int} : ∀ {l : List S25}, (∀ x ∈ l, f x = 0) → firstF f l = 0
  | [], _ => rfl
  | a :: l, h => by
    rw [firstF, if_pos (h a (List.mem_cons_self ..))]
    exact first_all fun x hx => h x (List.mem_cons_of_mem _ hx)
theorem kept_keys {x : S25} (hl : x.f3.length = x.f4.length) : (withF x).f3 = x.f3.filter (fun k => !(outB k)) := by
  show ((x.f3.zip x.f4).take x.f3.length |>.filter fun p => !(outB p.1)).map (·.1) = _
  rw [List.take_of_length_le (by rw [List.length_zip]; omega)]
  generalize x.f3 = a at *
  generalize x.f4 = b at *
  clear x
  induction a generalizing b with
  | nil => simp
  | cons k a ih =>
    cases b with
    | nil => simp at hl
    | cons p b =>
      have := ih b (by simpa using hl)
      rw [List.zip_cons_cons, List.filter_cons, List.filter_cons]
      cases hk : outB k <;> simp [hk, this]
theorem kept_mem {x : S25} {p : S25} (h : p ∈ (withF x).f4) : p ∈ x.f4 := by
  obtain ⟨q, hq, rfl⟩ := List.mem_map.1 (show p ∈ (keptL x x.f3.length).map (·.2) from h)
  have h1 := List.mem_of_mem_take (List.mem_filter.1 hq).1
  exact (List.of_mem_zip h1).2
theorem sum_filter {α : Type} (f : α → Nat) (q : α → Bool) : ∀ l : List α, ((l.filter q).map f).sum ≤ (l.map f).sum
  | [] => Nat.le_refl _
  | a :: l => by
    have := sum_filter f q l
    rw [List.filter_cons]
    split <;> simp only [List.map_cons, List.sum_cons] <;> omega
theorem sum_zip {α β : Type} (f : β → Nat) : ∀ (a : List α) (b : List β), ((a.zip b).map fun p => f p.2).sum ≤ (b.map f).sum
  | [], b => by simp
  | _ :: _, [] => by simp
  | _ :: a, y :: b => by
    have := sum_zip f a b
    simp only [List.zip_cons_cons, List.map_cons, List.sum_cons]
    omega
theorem with_bulk {x : S25} (hl : x.f3.length = x.f4.length) : ∀ d, bulkF d (withF x) ≤ bulkF d x
  | 0 => Nat.le_refl _
  | d + 1 => by
    simp only [bulkF]
    have h3 : ((withF x).f3.map fun k => k.size + 1).sum ≤ (x.f3.map fun k => k.size + 1).sum := by
      rw [kept_keys hl]; exact sum_filter _ _ _
    have h4 : ((withF x).f4.map (bulkF d)).sum ≤ (x.f4.map (bulkF d)).sum := by
      show (((keptL x x.f3.length).map (·.2)).map (bulkF d)).sum ≤ _
      rw [List.map_map]
      refine Nat.le_trans (sum_filter _ _ _) ?_
      rw [List.take_of_length_le (by rw [List.length_zip]; omega)]
      exact sum_zip (bulkF d) _ _
    have h2 : (withF x).f2.size = 0 := rfl
    omega
theorem with_fault {x : S25} (h7 : x.f0 = 7) : ∀ d, faultF d x = 0 → faultF d (withF x) = 0
  | 0, h => h
  | d + 1, h => by
    obtain ⟨hh, hp⟩ := fault_parts h
    obtain ⟨k1, k7, hkk, hk0, hk4, hA, n0, n1⟩ := head_facts hh
    have hl := hkk h7
    have hA' : ascI (withF x).f3 (withF x).f3.length 0 = true := by
      rw [asc_pair, kept_keys hl]
      rw [asc_pair] at hA
      exact List.Pairwise.filter _ hA
    have e0 : (withF x).f0 = 7 := h7
    have e1 : (withF x).f1 = 0 := rfl
    have e2 : (withF x).f2.toList = [] := by show (⟨#[]⟩ : ByteArray).toList = []; rw [Go.ByteArray.toList_eq]
    have el : (withF x).f3.length = (withF x).f4.length := by
      show ((keptL x x.f3.length).map (·.1)).length = ((keptL x x.f3.length).map (·.2)).length
      rw [List.length_map, List.length_map]
    have hpl : plainF (withF x) = true := by
      unfold plainF plainN
      rw [e0, e1, e2]
      simp
    have hhead : headF (withF x) = 0 := by
      unfold headF
      rw [if_neg (by rw [e0]; omega), if_neg ?_, if_neg (by rw [e1]; omega)]
      rintro (h | ⟨_, h⟩ | h)
      · rw [hpl] at h; cases h
      · exact h el
      · rw [hA'] at h; cases h
    rw [faultF, if_pos hhead]
    exact first_all fun p hpm => hp p (kept_mem hpm)
/-- What seal.Text tells. -/
def sealF (x : S25) : ByteArray × Int := if checkF x = 0 then (if x.f0 = 7 then (bz (textF 6 (withF x)), 0) else (⟨#[]⟩, 4)) else (⟨#[]⟩, checkF x)
theorem out_iff (k : ByteArray) : outB k = true ↔ k = sig ∨ k = uns := by
  unfold outB
  rw [Lib.containsS_iff]
  simp
theorem bytes_eq {k : ByteArray} {l : List UInt8} : k.toList = l ↔ k = ⟨l.toArray⟩ := by
  rw [Go.ByteArray.toList_eq]
  refine ⟨fun h => ?_, fun h => by rw [h]⟩
  apply ByteArray.ext
  rw [← Array.toArray_toList (xs := k.data)]
  exact congrArg List.toArray h
theorem seal_loop (x : S25) (h7 : x.f0 = 7) (hl : x.f3.length = x.f4.length) (hb : x.f4.length ≤ 100000000) (r : ByteArray) (ht : Ev (fun n => bagnallref_jsonText.f n (withF x).f0 (withF x).f1 (withF x).f2 (withF x).f3 (withF x).f4) r) :
    ∀ (m i : Nat), i + m = x.f3.length → Ev (fun n => bagnallref_SealText.l0 n x.f3 (x.f3.length : Int) (i : Int) x.f0 x.f1 x.f2 x.f3 x.f4 7 0 (⟨#[]⟩ : ByteArray) ((keptL x i).map (·.1)) ((keptL x i).map (·.2))) (r, 0)
  | 0, i, hi => by
    obtain rfl : i = x.f3.length := by omega
    have ht' : Ev (fun n => bagnallref_jsonText.f n 7 0 (⟨#[]⟩ : ByteArray) ((keptL x x.f3.length).map (·.1)) ((keptL x x.f3.length).map (·.2))) r := by
      have := ht
      rw [show (withF x).f0 = 7 from h7] at this
      exact this
    exact Ev.step (fun k => rfl) (Ev.neg (by omega) (Ev.bind ht' (Ev.now _)))
  | m + 1, i, hi => by
    have hlt : i < x.f3.length := by omega
    have hlt4 : i < x.f4.length := by omega
    have e2 : wrap64 ((i : Int) + 1) = ((i + 1 : Nat) : Int) := wrap_succ (by omega)
    have next := seal_loop x h7 hl hb r ht m (i + 1) (by omega)
    rw [kept_succ x i hlt hlt4] at next
    refine Ev.step (fun k => rfl) (Ev.pos (by omega) (Ev.pos (by omega) (Ev.pos (by omega) ?_)))
    rw [rdS, getD_str hlt, rd25 hlt4, e2, eta25]
    have hks := kept_len x i
    by_cases h1 : x.f3[i].toList = ([115, 105, 103, 110, 97, 116, 117, 114, 101, 115] : List UInt8)
    · rw [if_pos ((out_iff _).2 (.inl (bytes_eq.1 h1)))] at next
      exact Ev.pos h1 next
    · refine Ev.neg h1 ?_
      by_cases h2 : x.f3[i].toList = ([117, 110, 115, 105, 103, 110, 101, 100] : List UInt8)
      · rw [if_pos ((out_iff _).2 (.inr (bytes_eq.1 h2)))] at next
        exact Ev.pos h2 next
      · have hno : ¬ outB x.f3[i] = true := by
          rw [out_iff]
          rintro (h | h)
          · exact h1 (bytes_eq.2 h)
          · exact h2 (bytes_eq.2 h)
        rw [if_neg hno, List.map_append, List.map_append] at next
        exact Ev.neg h2 (Ev.pos (by rw [List.length_map]; omega) (Ev.pos (by omega) (Ev.pos (by rw [List.length_map]; omega) next)))
theorem rSeal_ev (x : S25) (hb : bulkF 6 x ≤ 100000000) : Ev (fun k => bagnallref_SealText.f k x.f0 x.f1 x.f2 x.f3 x.f4) (sealF x) := by
  unfold bagnallref_SealText.f sealF
  refine Ev.bind (rFault_ev x hb) ?_
  by_cases h0 : checkF x = 0
  · rw [if_pos h0]
    refine Ev.pos h0 ?_
    by_cases h7 : x.f0 = 7
    · have hf := check_fault h0
      obtain ⟨hh, hp⟩ := fault_parts (d := 5) hf
      have hl := (head_facts hh).2.2.1 h7
      have hb4 := (bulk_parts (d := 5) hb).2.2.1
      have ht := rtext_ev 6 (withF x) (with_fault h7 6 hf) (Nat.le_trans (with_bulk hl 6) hb)
      exact Ev.to (Ev.pos h7 (seal_loop x h7 hl hb4 _ ht x.f3.length 0 (by omega))) (by rw [if_pos h7])
    · exact Ev.to (Ev.neg h7 (Ev.now _)) (by rw [if_neg h7])
  · rw [if_neg h0]
    exact Ev.neg h0 (Ev.now _)
end Go.Proofs.YtmecnjhjlhpehaaDoor.Plain
