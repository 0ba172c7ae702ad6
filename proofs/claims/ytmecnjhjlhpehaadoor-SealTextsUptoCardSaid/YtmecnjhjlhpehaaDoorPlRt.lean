/- The reference's text of a value is the same: plain. -/
import Derived.Test.YtmecnjhjlhpehaaDoorPlTx
import Derived.Test.YtmecnjhjlhpehaaDoorQRq
import Derived.Test.YtmecnjhjlhpehaaDoorQJt2
namespace Go.Proofs.YtmecnjhjlhpehaaDoor.Plain
set_option linter.unusedVariables false
set_option linter.unusedSimpArgs false
open Go.RowKit Go.Proofs.YtmecnjhjlhpehaaDoor.Q Go.Proofs.YtmecnjhjlhpehaaDoorW.PrintWords
/-- Bytes as a string. -/
def bz (l : List UInt8) : ByteArray := ⟨l.toArray⟩
theorem bz_size (l : List UInt8) : (bz l).size = l.length := List.size_toArray
theorem bz_add (a b : List UInt8) : bz a ++ bz b = bz (a ++ b) := by
  apply ByteArray.ext
  rw [ByteArray.data_append]
  exact List.append_toArray a b
theorem bz_eta (s : ByteArray) : s = bz s.data.toList := rfl
theorem num_small (n : Nat) (h : n < 10) : strOfNums [(wrap64 (48 + (n : Int))) % 256] = bz (Lib.itoa (n : Int)) := by
  rw [Lib.itoa_nonneg, Lib.decDigits_one h, wrap_in (by omega) (by omega)]
  have e : ((48 + (n : Int)) % 256).toNat = 48 + n := by omega
  show (⟨(List.map (fun n : Int => UInt8.ofNat n.toNat) [(48 + (n : Int)) % 256]).toArray⟩ : ByteArray) = _
  rw [List.map_cons, e]
  rfl
theorem dig_big (n : Nat) (h : ¬ n < 10) : Lib.decDigits n = Lib.decDigits (n / 10) ++ Lib.decDigits (n % 10) := by
  rw [Lib.decDigits, dif_neg h, Lib.decDigits_one (i := n % 10) (by omega)]
theorem numNat_ev : ∀ (n : Nat), n ≤ 9223372036854775807 → Ev (fun k => bagnallref_numText.f k (n : Int)) (bz (Lib.itoa (n : Int))) := by
  intro n
  induction n using Nat.strongRecOn with
  | _ n ih =>
    intro hn
    by_cases h : n < 10
    · refine Ev.step (fun k => rfl) (Ev.neg (by omega) (Ev.pos (by omega) ?_))
      rw [num_small n h]
      exact Ev.now _
    · refine Ev.step (fun k => rfl) (Ev.neg (by omega) (Ev.neg (by omega) ?_))
      have e1 : wrap64 (Int.tdiv (n : Int) 10) = ((n / 10 : Nat) : Int) := by
        rw [show (10 : Int) = ((10 : Nat) : Int) from rfl, tdiv_cast, wrap_cast (by omega)]
      have e2 : Int.tmod (n : Int) 10 = ((n % 10 : Nat) : Int) := tmod_cast n 10
      rw [e1, e2]
      refine Ev.bind (ih (n / 10) (by omega) (by omega)) (Ev.bind (ih (n % 10) (by omega) (by omega)) ?_)
      have l1 : (Lib.itoa ((n / 10 : Nat) : Int)).length ≤ 21 := itoa_le (by omega) (by omega)
      have l2 : (Lib.itoa ((n % 10 : Nat) : Int)).length ≤ 21 := itoa_le (by omega) (by omega)
      refine Ev.pos (by rw [bz_size, bz_size]; omega) ?_
      rw [bz_add, Lib.itoa_nonneg, Lib.itoa_nonneg, ← dig_big n h, ← Lib.itoa_nonneg]
      exact Ev.now _
theorem num_ev (n : Int) (h0 : -9223372036854775807 ≤ n) (h1 : n ≤ 9223372036854775807) : Ev (fun k => bagnallref_numText.f k n) (bz (Lib.itoa n)) := by
  by_cases h : n < 0
  · obtain ⟨m, rfl⟩ : ∃ m : Nat, n = -(m : Int) := ⟨n.natAbs, by omega⟩
    refine Ev.step (fun k => rfl) (Ev.pos h ?_)
    rw [show wrap64 (- -(m : Int)) = (m : Int) from by rw [wrap_in (by omega) (by omega)]; omega]
    refine Ev.bind (numNat_ev m (by omega)) ?_
    have l1 : (Lib.itoa (m : Int)).length ≤ 21 := itoa_le (by omega) (by omega)
    refine Ev.pos (by rw [bz_size]; omega) ?_
    rw [Lib.itoa_neg m (by omega), Lib.itoa_nonneg]
    exact Ev.now _
  · obtain ⟨m, rfl⟩ : ∃ m : Nat, n = (m : Int) := ⟨n.toNat, by omega⟩
    exact numNat_ev m (by omega)
theorem quoted_ev (s : ByteArray) (h : s.size ≤ 1000000000) : Ev (fun _ : Nat => bagnallref_jsonQuoted.f s) (quoteF s) := by
  unfold bagnallref_jsonQuoted.f
  rw [if_pos h]
  exact Ev.now _
/-- The text with its brackets. -/
def wrapF (x : S25) (l : List UInt8) : List UInt8 := if x.f0 = 6 then 91 :: l ++ [93] else 123 :: l ++ [125]
theorem rj1_text (d : Nat) (x : S25) (B : Nat) (hB : B ≤ 9000000000) (hlen : x.f4.length ≤ 1000000000) (hk : ∀ k ∈ x.f3, k.size ≤ 1000000000) (hkk : x.f0 = 7 → x.f3.length = x.f4.length) (i : Nat) (hi : i < x.f4.length) (a : List UInt8) (r : ByteArray)
    (ha : (a ++ itemF x (textF d) i).length ≤ B)
    (ih : Ev (fun n => bagnallref_jsonText.f n x.f4[i].f0 x.f4[i].f1 x.f4[i].f2 x.f4[i].f3 x.f4[i].f4) (bz (textF d x.f4[i])))
    (next : Ev (fun n => bagnallref_jsonText.l0 n (bz (a ++ itemF x (textF d) i)) x.f4 (x.f4.length : Int) ((i + 1 : Nat) : Int) x.f0 x.f1 x.f2 x.f3 x.f4) r) :
    Ev (fun n => bagnallref_jsonText.j1 n (bz a) (i : Int) x.f4 (x.f4.length : Int) (i : Int) x.f0 x.f1 x.f2 x.f3 x.f4 x.f4[i].f0 x.f4[i].f1 x.f4[i].f2 x.f4[i].f3 x.f4[i].f4) r := by
  have e2 : x.f4.getD i z25 = x.f4[i] := by rw [List.getD_eq_getElem?_getD, List.getElem?_eq_getElem hi]; rfl
  have e1 : wrap64 ((i : Int) + 1) = ((i + 1 : Nat) : Int) := wrap_succ (by omega)
  unfold itemF at ha next
  rw [e2] at ha next
  refine Ev.step (fun k => rfl) ?_
  by_cases h7 : x.f0 = 7
  · have hki : i < x.f3.length := by rw [hkk h7]; exact hi
    have e3 : x.f3.getD i ByteArray.empty = x.f3[i] := by rw [List.getD_eq_getElem?_getD, List.getElem?_eq_getElem hki]; rfl
    rw [if_pos h7, e3] at ha next
    refine Ev.pos h7 (Ev.pos (by omega) (Ev.pos (by omega) ?_))
    rw [rdS, e3, e1]
    refine Ev.bind (quoted_ev _ (hk _ (List.getElem_mem hki))) ?_
    have hq : quoteF x.f3[i] = bz (quoteF x.f3[i]).data.toList := bz_eta _
    rw [hq]
    generalize (quoteF x.f3[i]).data.toList = q at ha next
    simp only [List.length_append, List.length_cons, List.length_nil] at ha
    have hc : (⟨#[58]⟩ : ByteArray) = bz [58] := rfl
    rw [hc, bz_add, bz_add]
    refine Ev.pos (by rw [bz_size]; omega) (Ev.pos (by rw [bz_size, bz_size, List.length_append, List.length_cons, List.length_nil]; omega) (Ev.bind ih ?_))
    rw [bz_add]
    refine Ev.pos (by rw [bz_size, bz_size, List.length_append, List.length_append, List.length_cons, List.length_nil]; omega) ?_
    rw [← List.append_assoc] at next
    exact next
  · rw [if_neg h7] at ha next
    rw [List.nil_append] at ha next
    refine Ev.neg h7 (Ev.bind ih ?_)
    rw [bz_add, e1]
    rw [List.length_append] at ha
    exact Ev.pos (by rw [bz_size, bz_size]; omega) next
theorem rl0_text (d : Nat) (x : S25) (B : Nat) (hB : B ≤ 9000000000) (hacc : (accT x (textF d) x.f4.length).length ≤ B) (hlen : x.f4.length ≤ 1000000000) (hk : ∀ k ∈ x.f3, k.size ≤ 1000000000) (hkk : x.f0 = 7 → x.f3.length = x.f4.length)
    (ih : ∀ p ∈ x.f4, Ev (fun n => bagnallref_jsonText.f n p.f0 p.f1 p.f2 p.f3 p.f4) (bz (textF d p))) : ∀ (m i : Nat), i + m = x.f4.length → Ev (fun n => bagnallref_jsonText.l0 n (bz (accT x (textF d) i)) x.f4 (x.f4.length : Int) (i : Int) x.f0 x.f1 x.f2 x.f3 x.f4) (bz (wrapF x (accT x (textF d) x.f4.length)))
  | 0, i, hi => by
    obtain rfl : i = x.f4.length := by omega
    refine Ev.step (fun k => rfl) (Ev.neg (by omega) ?_)
    generalize accT x (textF d) x.f4.length = A at hacc
    have b1 : (⟨#[91]⟩ : ByteArray) = bz [91] := rfl
    have b2 : (⟨#[93]⟩ : ByteArray) = bz [93] := rfl
    have b3 : (⟨#[123]⟩ : ByteArray) = bz [123] := rfl
    have b4 : (⟨#[125]⟩ : ByteArray) = bz [125] := rfl
    rw [b1, b2, b3, b4, bz_add, bz_add, bz_add, bz_add, bz_size, bz_size, bz_size]
    unfold wrapF
    have l1 : ([91] ++ A).length = A.length + 1 := by simp
    have l2 : ([123] ++ A).length = A.length + 1 := by simp
    by_cases h6 : x.f0 = 6
    · exact Ev.to (Ev.pos h6 (Ev.pos (by omega) (Ev.pos (by omega) (Ev.now _)))) (by rw [if_pos h6]; rfl)
    · exact Ev.to (Ev.neg h6 (Ev.pos (by omega) (Ev.pos (by omega) (Ev.now _)))) (by rw [if_neg h6]; rfl)
  | m + 1, i, hi => by
    have hlt : i < x.f4.length := by omega
    have hnext := rl0_text d x B hB hacc hlen hk hkk ih m (i + 1) (by omega)
    have hle := acc_mono x (textF d) (i + 1) x.f4.length (by omega)
    refine Ev.step (fun k => rfl) (Ev.pos (by omega) (Ev.pos (by omega) (Ev.pos (by omega) ?_)))
    rw [rd25 hlt]
    rcases Nat.eq_zero_or_pos i with rfl | h0
    · refine Ev.neg (by omega) ?_
      rw [acc_one] at hnext hle
      rw [acc_zero]
      exact rj1_text d x B hB hlen hk hkk 0 hlt [] _ (by rw [List.nil_append]; omega) (ih _ (List.getElem_mem hlt)) hnext
    · rw [acc_succ x (textF d) i h0] at hnext hle
      have b1 : (⟨#[44]⟩ : ByteArray) = bz [44] := rfl
      refine Ev.pos (by omega) (Ev.pos (by rw [bz_size]; simp only [List.length_append, List.length_cons, List.length_nil] at hle; omega) ?_)
      rw [b1, bz_add]
      exact rj1_text d x B hB hlen hk hkk i hlt _ _ (by omega) (ih _ (List.getElem_mem hlt)) hnext
theorem head_facts {x : S25} (h : headF x = 0) : 1 ≤ x.f0 ∧ x.f0 ≤ 7 ∧ (x.f0 = 7 → x.f3.length = x.f4.length) ∧ (x.f0 ≠ 7 → x.f3 = []) ∧ (x.f0 ≠ 6 → x.f0 ≠ 7 → x.f4 = []) ∧ ascI x.f3 x.f3.length 0 = true ∧ -9007199254740992 < x.f1 ∧ x.f1 < 9007199254740992 := by
  unfold headF at h
  by_cases h1 : x.f0 < 1 ∨ 7 < x.f0
  · rw [if_pos h1] at h; cases h
  rw [if_neg h1] at h
  by_cases h2 : plainF x = false ∨ (x.f0 = 7 ∧ x.f3.length ≠ x.f4.length) ∨ ascI x.f3 x.f3.length 0 = false
  · rw [if_pos h2] at h; cases h
  rw [if_neg h2] at h
  by_cases h3 : 9007199254740992 ≤ x.f1 ∨ x.f1 ≤ -9007199254740992
  · rw [if_pos h3] at h; cases h
  have hp : plainF x = true := by
    cases hq : plainF x with
    | true => rfl
    | false => exact absurd (Or.inl hq) h2
  have hA : ascI x.f3 x.f3.length 0 = true := by
    cases hq : ascI x.f3 x.f3.length 0 with
    | true => rfl
    | false => exact absurd (Or.inr (Or.inr hq)) h2
  have hpp := of_decide_eq_true (show decide _ = true from hp)
  refine ⟨by omega, by omega, fun h7 => ?_, fun h7 => ?_, fun h6 h7 => ?_, hA, by omega, by omega⟩
  · rcases Nat.decEq x.f3.length x.f4.length with hne | he
    · exact absurd (Or.inr (Or.inl ⟨h7, hne⟩)) h2
    · exact he
  · rcases hpp.2.2.1 with h | h
    · exact absurd h h7
    · exact List.eq_nil_of_length_eq_zero h
  · rcases hpp.2.2.2 with h | h | h
    · exact absurd h h6
    · exact absurd h h7
    · exact List.eq_nil_of_length_eq_zero h
theorem bulk_keys {d : Nat} {x : S25} {B : Nat} (h : bulkF (d + 1) x ≤ B) : ∀ k ∈ x.f3, k.size ≤ B := by
  intro k hk
  have h1 := le_sum (fun k : ByteArray => k.size + 1) x.f3 k hk
  simp only [bulkF] at h
  omega
theorem rtext_ev : ∀ (d : Nat) (x : S25), faultF d x = 0 → bulkF d x ≤ 100000000 → Ev (fun n => bagnallref_jsonText.f n x.f0 x.f1 x.f2 x.f3 x.f4) (bz (textF d x))
  | 0, x, hf, _ => absurd hf (by simp [faultF])
  | d + 1, x, hf, hb => by
    obtain ⟨h2, h3, h4, hp⟩ := bulk_parts hb
    have hk := bulk_keys hb
    obtain ⟨hh, hz⟩ := fault_parts hf
    obtain ⟨k1, k7, hkk, hk0, _, _, n0, n1⟩ := head_facts hh
    have hacc := acc_bulk d x (fun p hpm => text_bulk d p (nums_of_fault d p (hz p hpm)))
    have hl := rl0_text d x 9000000000 (Nat.le_refl _) (by omega) (by omega) (fun k hm => by have := hk k hm; omega) hkk (fun p hpm => rtext_ev d p (hz p hpm) (hp p hpm)) x.f4.length 0 (by omega)
    rw [acc_zero] at hl
    refine Ev.step (fun k => rfl) ?_
    by_cases c1 : x.f0 = 1
    · exact Ev.to (Ev.pos c1 (Ev.now _)) (by rw [textF, if_pos c1]; rfl)
    refine Ev.neg c1 ?_
    by_cases c2 : x.f0 = 2
    · exact Ev.to (Ev.pos c2 (Ev.now _)) (by rw [textF, if_neg c1, if_pos c2]; rfl)
    refine Ev.neg c2 ?_
    by_cases c3 : x.f0 = 3
    · exact Ev.to (Ev.pos c3 (Ev.now _)) (by rw [textF, if_neg c1, if_neg c2, if_pos c3]; rfl)
    refine Ev.neg c3 ?_
    by_cases c4 : x.f0 = 4
    · exact Ev.to (Ev.pos c4 (Ev.bind (num_ev x.f1 (by omega) (by omega)) (Ev.now _))) (by rw [textF, if_neg c1, if_neg c2, if_neg c3, if_pos c4])
    refine Ev.neg c4 ?_
    by_cases c5 : x.f0 = 5
    · exact Ev.to (Ev.pos c5 (Ev.bind (quoted_ev x.f2 (by omega)) (Ev.now _))) (by rw [textF, if_neg c1, if_neg c2, if_neg c3, if_neg c4, if_pos c5]; exact bz_eta _)
    refine Ev.neg c5 ?_
    exact Ev.to hl (by rw [textF, if_neg c1, if_neg c2, if_neg c3, if_neg c4, if_neg c5]; rfl)
end Go.Proofs.YtmecnjhjlhpehaaDoor.Plain
