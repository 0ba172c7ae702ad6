/- Plain facts on numbers for package sign: powers modulo 7823 and 3911, squares, inverses; and three small words on 'Ev'. No program. -/
import Derived.RowKit
namespace Go.Proofs.Ytjceapbbapofmaa.SignMath
open Go.RowKit

theorem wrap_in {n : Int} (h0 : -9223372036854775808 ≤ n) (h1 : n ≤ 9223372036854775807) : wrap64 n = n := by unfold wrap64; omega

theorem tmod_cast (a b : Nat) : Int.tmod (a : Int) (b : Int) = ((a % b : Nat) : Int) := by
  rw [Int.tmod_eq_emod_of_nonneg (by omega)]; exact (Int.natCast_emod a b).symm
theorem tdiv_cast (a b : Nat) : Int.tdiv (a : Int) (b : Int) = ((a / b : Nat) : Int) := by
  rw [Int.tdiv_eq_ediv_of_nonneg (by omega)]; exact (Int.natCast_ediv a b).symm

/-- A power by squaring, at most f times. -/
def pm : Nat → Nat → Nat → Nat → Nat → Nat
  | 0, _, _, out, m => out % m
  | f + 1, n, e, out, m => pm f (n * n % m) (e / 2) (if e % 2 = 1 then out * n % m else out) m

theorem pow_half (n e : Nat) : n ^ e = (n * n) ^ (e / 2) * n ^ (e % 2) := by
  have h : e = 2 * (e / 2) + e % 2 := (Nat.div_add_mod e 2).symm
  calc n ^ e = n ^ (2 * (e / 2) + e % 2) := by rw [← h]
    _ = (n ^ 2) ^ (e / 2) * n ^ (e % 2) := by rw [Nat.pow_add, Nat.pow_mul]
    _ = _ := by rw [Nat.pow_two]

theorem pm_step (n e out m : Nat) : (if e % 2 = 1 then out * n % m else out) * (n * n % m) ^ (e / 2) % m = out * n ^ e % m := by
  rw [pow_half n e]
  have h2 : e % 2 = 0 ∨ e % 2 = 1 := by omega
  rcases h2 with h | h
  · rw [if_neg (by omega), h, Nat.pow_zero, Nat.mul_one, Nat.mul_mod, ← Nat.pow_mod, ← Nat.mul_mod]
  · rw [if_pos h, h, Nat.pow_one, Nat.mul_mod, Nat.mod_mod, ← Nat.pow_mod, ← Nat.mul_mod]
    congr 1
    rw [Nat.mul_assoc, Nat.mul_comm n ((n * n) ^ (e / 2))]

theorem pm_eq : ∀ f n e out m, e < 2 ^ f → pm f n e out m = out * n ^ e % m
  | 0, n, e, out, m, h => by
    have : e = 0 := by simpa using h
    subst this; simp [pm]
  | f + 1, n, e, out, m, h => by
    unfold pm
    rw [pm_eq f _ _ _ _ (by rw [Nat.pow_succ] at h; omega)]
    exact pm_step n e out m

theorem pm_lt : ∀ f n e out m, 0 < m → pm f n e out m < m
  | 0, _, _, _, _, h => Nat.mod_lt _ h
  | f + 1, _, _, _, _, h => pm_lt f _ _ _ _ h

theorem pm_zero : ∀ f n out m, out < m → pm f n 0 out m = out
  | 0, _, _, _, h => Nat.mod_eq_of_lt h
  | f + 1, n, out, m, h => by unfold pm; exact pm_zero f _ _ _ h

/-- All numbers below n are good. -/
def allB (f : Nat → Bool) : Nat → Bool
  | 0 => true
  | n + 1 => f n && allB f n
theorem allB_at {f : Nat → Bool} : ∀ {n}, allB f n = true → ∀ k, k < n → f k = true
  | n + 1, h, k, hk => by
    unfold allB at h
    rw [Bool.and_eq_true] at h
    rcases Nat.lt_or_ge k n with h' | h'
    · exact allB_at h.2 k h'
    · obtain rfl : k = n := by omega
      exact h.1

def rootGood (n : Nat) : Bool := !(pm 12 n 3911 1 7823 == 1) || (pm 12 n 1956 1 7823 * pm 12 n 1956 1 7823 % 7823 == n)
def squareGood (i : Nat) : Bool := (i == 0) || (pm 12 (i * i % 7823) 3911 1 7823 == 1)
def inverseGood (b : Nat) : Bool := (b == 0) || (b * pm 12 b 3909 1 3911 % 3911 == 1)
theorem roots_good : allB (fun a => allB (fun b => decide (7823 ≤ a * 80 + b) || rootGood (a * 80 + b)) 80) 98 = true := by decide +kernel
theorem squares_good : allB (fun a => allB (fun b => squareGood (a * 80 + b)) 80) 49 = true := by decide +kernel
theorem inverses_good : allB (fun a => allB (fun b => (decide (3911 ≤ a * 80 + b)) || inverseGood (a * 80 + b)) 80) 49 = true := by decide +kernel

theorem square_mirror (s : Nat) (h : s ≤ 7823) : (7823 - s) * (7823 - s) % 7823 = s * s % 7823 := by
  have h1 : (7823 - s) * (7823 - s) + 2 * s * 7823 = 7823 * 7823 + s * s := by
    obtain ⟨t, ht⟩ : ∃ t, t = 7823 - s := ⟨_, rfl⟩
    obtain rfl : s = 7823 - t := by omega
    have : 7823 - (7823 - t) = t := by omega
    rw [this]
    obtain ⟨u, rfl⟩ : ∃ u, u = 7823 - t := ⟨_, rfl⟩
    have e : t + (7823 - t) = 7823 := by omega
    generalize 7823 - t = v at e
    have : (t + v) * (t + v) = t * t + 2 * v * t + v * v := by
      rw [Nat.add_mul, Nat.mul_add, Nat.mul_add, Nat.mul_comm v t, Nat.mul_assoc 2 v t, Nat.mul_comm v t]; omega
    rw [← e, this]
    have : 2 * v * (t + v) = 2 * v * t + 2 * (v * v) := by rw [Nat.mul_add, Nat.mul_assoc 2 v v]
    rw [this]; omega
  omega

/-- A number has a power of 1 with the exponent 3911 just where it is a square. -/
theorem key_iff (n : Nat) (h2 : 2 ≤ n) (h : n < 7823) : pm 12 n 3911 1 7823 = 1 ↔ ∃ i, 2 ≤ i ∧ i < 3912 ∧ i * i % 7823 = n := by
  constructor
  · intro h1
    have g := allB_at (allB_at roots_good (n / 80) (by omega)) (n % 80) (by omega)
    have e : n / 80 * 80 + n % 80 = n := by omega

    rw [e] at g
    unfold rootGood at g
    rw [h1, decide_eq_false (by omega)] at g
    simp only [beq_self_eq_true, Bool.not_true, Bool.false_or, beq_iff_eq] at g
    obtain ⟨s, hs⟩ : ∃ s, s = pm 12 n 1956 1 7823 := ⟨_, rfl⟩
    have hlt : s < 7823 := by rw [hs]; exact pm_lt _ _ _ _ _ (by omega)
    rw [← hs] at g
    have s0 : s ≠ 0 := by rintro rfl; simp at g; omega
    have s1 : s ≠ 1 := by rintro rfl; simp at g; omega
    have s2 : s ≠ 7822 := by rintro rfl; simp at g; omega
    by_cases hm : s < 3912
    · exact ⟨s, by omega, hm, g⟩
    · exact ⟨7823 - s, by omega, by omega, by rw [square_mirror s (by omega)]; exact g⟩
  · rintro ⟨i, i0, i1, rfl⟩
    have g := allB_at (allB_at squares_good (i / 80) (by omega)) (i % 80) (by omega)
    have e : i / 80 * 80 + i % 80 = i := by omega

    rw [e] at g
    unfold squareGood at g
    simp only [Bool.or_eq_true, beq_iff_eq] at g
    rcases g with g | g
    · omega
    · exact g

theorem inverse (b : Nat) (h1 : 1 ≤ b) (h : b < 3911) : b * pm 12 b 3909 1 3911 % 3911 = 1 := by
  have g := allB_at (allB_at inverses_good (b / 80) (by omega)) (b % 80) (by omega)
  have e : b / 80 * 80 + b % 80 = b := by omega

  rw [e] at g
  unfold inverseGood at g
  simp only [Bool.or_eq_true, beq_iff_eq, decide_eq_true_eq] at g
  rcases g with g | g | g
  · omega
  · omega
  · exact g

/-- The hash. -/
def hstep (n : Nat) (b : Int) : Nat := (n * 257 + b.toNat + 1) % 3911
def hsh (n : Nat) (l : List Int) : Nat := l.foldl hstep n
theorem hsh_lt (l : List Int) : ∀ n, n < 3911 → hsh n l < 3911 := by
  induction l with
  | nil => intro n h; exact h
  | cons b l ih => intro n _; exact ih _ (Nat.mod_lt _ (by omega))
theorem hsh_snoc (n : Nat) (l : List Int) (b : Int) : hsh n (l ++ [b]) = hstep (hsh n l) b := by simp [hsh]
end Go.Proofs.Ytjceapbbapofmaa.SignMath
