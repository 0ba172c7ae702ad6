/- The table of letters, and what package base's functions and their references answer: letters and bits. -/
import Derived.Test.YtmecnjhjlhpehaaQBa3
import Derived.Test.YtmecnjhjlhpehaaQBa1
import Derived.Test.YtmecnjhjlhpehaaQBa2
import Derived.Test.YtmecnjhjlhpehaaQIb
import Derived.Test.YtmecnjhjlhpehaaBits
import Derived.Test.YtmecnjhjlhpehaaPlStr
import Derived.Laws.BitsLemmas
namespace Go.Proofs.Ytmecnjhjlhpehaa.Plain
open Go.RowKit Go.Proofs.Ytmecnjhjlhpehaa.Q Go.Proofs.Ytmecnjhjlhpehaa.Bits Go.Proofs.YtmecnjhjlhpehaaW.PrintWords Go.Proofs.YtmecnjhjlhpehaaW.PrintLast Go.Proofs.YtmecnjhjlhpehaaW.PrintMore
def tbl : ByteArray := ⟨#[65, 66, 67, 68, 69, 70, 71, 72, 73, 74, 75, 76, 77, 78, 79, 80, 81, 82, 83, 84, 85, 86, 87, 88, 89, 90, 97, 98, 99, 100, 101, 102, 103, 104, 105, 106, 107, 108, 109, 110, 111, 112, 113, 114, 115, 116, 117, 118, 119, 120, 121, 122, 48, 49, 50, 51, 52, 53, 54, 55, 56, 57, 43, 47]⟩
def valOf (c : Int) : Int := Lib.indexByte tbl.data.toList c.toNat.toUInt8
def lastIdx (c : Int) : Nat → Int → Nat → Int
  | 0, k, _ => k
  | d + 1, k, j => lastIdx c d (if bt tbl (j : Int) = c then (j : Int) else k) (j + 1)
def allB (f : Nat → Bool) : Nat → Bool
  | 0 => true
  | n + 1 => f n && allB f n
theorem allB_at {f : Nat → Bool} : ∀ {n}, allB f n = true → ∀ k, k < n → f k = true
  | n + 1, h, k, hk => by
    unfold allB at h
    rw [Bool.and_eq_true] at h
    rcases Nat.lt_or_ge k n with h' | h'
    · exact allB_at h.2 k h'
    · obtain rfl : k = n := by omega
      exact h.1
def goodByte (n : Nat) : Bool := (lastIdx (n : Int) 64 (-1) 0 == valOf n) && ((valOf n == -1) || (decide (0 ≤ valOf n) && decide (valOf n < 64) && (bt tbl (valOf n) == (n : Int))))
def goodLetter (v : Nat) : Bool := valOf (bt tbl (v : Int)) == (v : Int)
theorem bytes_good : allB goodByte 256 = true := by decide +kernel
theorem letters_good : allB goodLetter 64 = true := by decide +kernel
theorem val_cases (c : Int) (h0 : 0 ≤ c) (h1 : c ≤ 255) : lastIdx c 64 (-1) 0 = valOf c ∧ (valOf c = -1 ∨ ∃ v : Nat, valOf c = v ∧ v < 64 ∧ bt tbl (v : Int) = c) := by
  obtain ⟨n, rfl⟩ := Int.eq_ofNat_of_zero_le h0
  have g := allB_at bytes_good n (by omega)
  unfold goodByte at g
  simp only [Bool.and_eq_true, Bool.or_eq_true, beq_iff_eq, decide_eq_true_eq] at g
  refine ⟨g.1, ?_⟩
  rcases g.2 with g | ⟨⟨g1, g2⟩, g3⟩
  · exact .inl g
  · obtain ⟨v, hv⟩ := Int.eq_ofNat_of_zero_le g1
    exact .inr ⟨v, hv, by omega, by rw [← hv]; exact g3⟩
theorem letter_val (v : Nat) (h : v < 64) : valOf (bt tbl (v : Int)) = v := by
  have := allB_at letters_good v h
  unfold goodLetter at this
  exact beq_iff_eq.1 this
/-- Values as letters. -/
def letters (vs : List Nat) : List Int := vs.map fun v : Nat => bt tbl (v : Int)
theorem letters_inj : ∀ {a b : List Nat}, (∀ v ∈ a, v < 64) → (∀ v ∈ b, v < 64) → letters a = letters b → a = b
  | [], [], _, _, _ => rfl
  | [], _ :: _, _, _, h => by simp [letters] at h
  | _ :: _, [], _, _, h => by simp [letters] at h
  | x :: a, y :: b, ha, hb, h => by
    simp only [letters, List.map_cons, List.cons.injEq] at h
    have e : (x : Int) = (y : Int) := by rw [← letter_val x (ha x (by simp)), ← letter_val y (hb y (by simp)), h.1]
    rw [letters_inj (fun v hv => ha v (by simp [hv])) (fun v hv => hb v (by simp [hv])) h.2]
    congr 1
    omega
theorem letters_append (a b : List Nat) : letters (a ++ b) = letters a ++ letters b := by simp [letters]

/-- The values of the letters from the i-th on; none: one is no letter. -/
def scan (s : ByteArray) : Nat → Nat → Option (List Nat)
  | 0, _ => some []
  | d + 1, i => if valOf (bt s (i : Int)) < 0 then none else (scan s d (i + 1)).map ((valOf (bt s (i : Int))).toNat :: ·)
theorem scan_says (s : ByteArray) : ∀ d i vs, scan s d i = some vs → i + d = s.size → (∀ v ∈ vs, v < 64) ∧ vs.length = d ∧ letters vs = (bytesOf s).drop i
  | 0, i, vs, h, hi => by
    obtain rfl := Option.some.inj h
    exact ⟨by simp, rfl, by rw [List.drop_of_length_le (by rw [size_bytes]; omega)]; rfl⟩
  | d + 1, i, vs, h, hi => by
    have hlt : i < s.size := by omega
    have hb := bt_range s (i : Int)
    unfold scan at h
    split at h
    · cases h
    rename_i hv
    obtain ⟨t, ht, rfl⟩ := Option.map_eq_some_iff.1 h
    obtain ⟨h1, h2, h3⟩ := scan_says s d (i + 1) t ht (by omega)
    rcases (val_cases _ hb.1 hb.2).2 with e | ⟨v, e, e1, e2⟩
    · omega
    refine ⟨?_, by simp [h2], ?_⟩
    · intro x hx
      rcases List.mem_cons.1 hx with rfl | hx
      · rw [e]; simpa using e1
      · exact h1 x hx
    · rw [List.drop_eq_getElem_cons (by rw [size_bytes]; exact hlt), ← h3, ← bt_get hlt]
      simp only [letters, List.map_cons]
      rw [e, Int.toNat_natCast, e2]

theorem and_mask (x : Nat) (i : Nat) (hi : i ≤ 40) (h : x < 2 ^ 40) : Go.bits .and .i64 (x : Int) (2 ^ i - 1) = ((x % 2 ^ i : Nat) : Int) := by
  rw [bits_mask .i64 40 (by decide) (fun n h0 h1 => by rw [IntKind.wrap_i64]; omega) i hi (x : Int) (by omega) (by exact_mod_cast h)]
  rw [Int.natCast_emod]
  simp
theorem or_join (x y : Nat) (h : x < 65536) (hy : y < 64) : Go.bits .or .i64 (wrap64 ((x : Int) * 64)) (y : Int) = ((x * 64 + y : Nat) : Int) := by
  rw [wrap_in (by omega) (by omega), bits_join .i64 40 (by decide) (fun n h0 h1 => by rw [IntKind.wrap_i64]; omega) 6 _ _ (by omega) (by omega) (by omega) (by omega) (by omega) (by omega)]
  omega
theorem shr_nat (x c : Nat) (hc : c ≤ 64) : shr .i64 (x : Int) (c : Int) = ((x / 2 ^ c : Nat) : Int) := by
  unfold shr
  rw [Int.toNat_natCast, Nat.min_eq_left (show c ≤ IntKind.i64.bits from hc), Int.natCast_ediv]
  simp
theorem bit_of (x c : Nat) (hc : c ≤ 6) (hx : x < 64) : Go.bits .and .i64 (shr .i64 (x : Int) (c : Int)) 1 = ((x / 2 ^ c % 2 : Nat) : Int) := by
  rw [shr_nat x c (by omega)]
  have := and_mask (x / 2 ^ c) 1 (by omega) (by have := Nat.div_le_self x (2 ^ c); omega)
  simpa using this
end Go.Proofs.Ytmecnjhjlhpehaa.Plain
