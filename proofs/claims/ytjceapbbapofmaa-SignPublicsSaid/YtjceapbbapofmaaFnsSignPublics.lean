/- The functions of package sign and of its reference, as printed, answer what the plain functions of SignMath say. -/
import Derived.Test.YtjceapbbapofmaaPSignPublicsx1
import Derived.Test.YtjceapbbapofmaaSignMath
namespace Go.Proofs.Ytjceapbbapofmaa.FnsSignPublics
open Go.RowKit Go.Proofs.Ytjceapbbapofmaa.PSignPublics Go.Proofs.YtjceapbbapofmaaW.PrintWords Go.Proofs.YtjceapbbapofmaaW.PrintLast
open Go.Proofs.Ytjceapbbapofmaa.SignMath

theorem Ev.pos {α : Type} {c : Prop} [Decidable c] {g f : Nat → Option α} {r : α} (hc : c) (h : Ev g r) : Ev (fun k => if c then g k else f k) r :=
  h.congr fun _ => if_pos hc
theorem Ev.neg {α : Type} {c : Prop} [Decidable c] {g f : Nat → Option α} {r : α} (hc : ¬ c) (h : Ev f r) : Ev (fun k => if c then g k else f k) r :=
  h.congr fun _ => if_neg hc
theorem Ev.to {α : Type} {g : Nat → Option α} {r q : α} (h : Ev g r) (e : r = q) : Ev g q := e ▸ h

theorem Ev.use0 {α : Type} {g : Nat → Option α} {r : α} (h : ∀ k, g (k + 1) = some r) : Ev g r := Ev.step (f := fun _ => some r) h (Ev.now r)
theorem Ev.use1 {α β : Type} {g : Nat → Option α} {g1 : Nat → Option β} {r : α} {b : β} (h1 : Ev g1 b) (h : ∀ k, g1 k = some b → g (k + 1) = some r) : Ev g r := by
  obtain ⟨K, hK⟩ := h1
  exact ⟨K + 1, fun k hk => by obtain ⟨m, rfl⟩ : ∃ m, k = m + 1 := ⟨k - 1, by omega⟩; exact h m (hK m (by omega))⟩
theorem Ev.use2 {α β γ : Type} {g : Nat → Option α} {g1 : Nat → Option β} {g2 : Nat → Option γ} {r : α} {b : β} {c : γ} (h1 : Ev g1 b) (h2 : Ev g2 c) (h : ∀ k, g1 k = some b → g2 k = some c → g (k + 1) = some r) : Ev g r := by
  obtain ⟨K, hK⟩ := h1
  obtain ⟨M, hM⟩ := h2
  exact ⟨max K M + 1, fun k hk => by obtain ⟨m, rfl⟩ : ∃ m, k = m + 1 := ⟨k - 1, by omega⟩; exact h m (hK m (by omega)) (hM m (by omega))⟩

theorem power_l0 (m : Nat) (h1 : 1 ≤ m) (hm : m ≤ 7823) : ∀ (f n t out : Nat), n < m → out < m → t < 2 ^ f → t < 10000 →
    Ev (fun k => sign_power.l0 k (n : Int) (t : Int) (m : Int) (out : Int)) ((pm f n t out m : Nat) : Int)
  | f, n, 0, out, hn, ho, ht, _ => by
    rw [pm_zero f n out m ho]
    exact Ev.step (fun k => rfl) (Ev.neg (by omega) (Ev.now _))
  | 0, n, t + 1, out, hn, ho, ht, _ => by simp at ht
  | f + 1, n, t + 1, out, hn, ho, ht, hlt => by
    have hnn : n * n ≤ 7823 * 7823 := Nat.mul_le_mul (by omega) (by omega)
    have hon : out * n ≤ 7823 * 7823 := Nat.mul_le_mul (by omega) (by omega)
    have e1 : Int.tmod (wrap64 ((n : Int) * (n : Int))) (m : Int) = ((n * n % m : Nat) : Int) := by
      have : ((n : Int) * (n : Int)) = ((n * n : Nat) : Int) := by simp
      rw [this, wrap_in (by omega) (by omega), tmod_cast]
    have e2 : Int.tmod (wrap64 ((out : Int) * (n : Int))) (m : Int) = ((out * n % m : Nat) : Int) := by
      have : ((out : Int) * (n : Int)) = ((out * n : Nat) : Int) := by simp
      rw [this, wrap_in (by omega) (by omega), tmod_cast]
    have e3 : wrap64 (Int.tdiv ((t + 1 : Nat) : Int) 2) = (((t + 1) / 2 : Nat) : Int) := by
      rw [show (2 : Int) = ((2 : Nat) : Int) from rfl, tdiv_cast, wrap_in (by omega) (by omega)]
    have e4 : Int.tmod ((t + 1 : Nat) : Int) 2 = (((t + 1) % 2 : Nat) : Int) := by
      rw [show (2 : Int) = ((2 : Nat) : Int) from rfl, tmod_cast]
    have hh : (t + 1) / 2 < 2 ^ f := by rw [Nat.pow_succ] at ht; omega
    refine Ev.step (fun k => rfl) (Ev.pos (by omega) ?_)
    simp only [e1, e2, e3, e4]
    unfold pm
    by_cases ho2 : (t + 1) % 2 = 1
    · refine Ev.pos (by omega) (Ev.neg (by omega) ?_)
      rw [if_pos ho2]
      exact power_l0 m h1 hm f _ _ _ (Nat.mod_lt _ (by omega)) (Nat.mod_lt _ (by omega)) hh (by omega)
    · refine Ev.neg (by omega) (Ev.neg (by omega) ?_)
      rw [if_neg ho2]
      exact power_l0 m h1 hm f _ _ _ (Nat.mod_lt _ (by omega)) ho hh (by omega)

/-- The power of n with the exponent t, modulo m. -/
theorem power_any (n t m : Nat) (h1 : 2 ≤ m) (hm : m ≤ 7823) (hn : n < m) (ht : t < 4096) :
    Ev (fun k => sign_power.f k (n : Int) (t : Int) (m : Int)) ((pm 12 n t 1 m : Nat) : Int) := by
  unfold sign_power.f
  refine Ev.neg (by omega) ?_
  have e : Int.tmod (n : Int) (m : Int) = (n : Int) := by rw [tmod_cast, Nat.mod_eq_of_lt hn]
  rw [e]
  exact power_l0 m (by omega) hm 12 n t 1 hn (by omega) ht (by omega)
theorem times_l0 (n t : Nat) (hn : n < 7823) (ht : t < 10000) : ∀ (d i : Nat), i + d = t →
    Ev (fun k => bagnallref_times.l0 k (n : Int) (t : Int) ((n ^ i % 7823 : Nat) : Int) (i : Int)) ((n ^ t % 7823 : Nat) : Int)
  | 0, i, hi => by
    refine Ev.step (fun k => rfl) (Ev.neg (by omega) ?_)
    obtain rfl : i = t := by omega
    exact Ev.now _
  | d + 1, i, hi => by
    refine Ev.step (fun k => rfl) (Ev.pos (by omega) ?_)
    have hp : n ^ i % 7823 < 7823 := Nat.mod_lt _ (by omega)
    have hs : n ^ (i + 1) % 7823 = n ^ i % 7823 * n % 7823 := by rw [Nat.pow_succ, Nat.mul_mod, Nat.mul_mod (n ^ i % 7823) n, Nat.mod_mod]
    rw [show Int.tmod (wrap64 (((n ^ i % 7823 : Nat) : Int) * (n : Int))) 7823 = ((n ^ (i + 1) % 7823 : Nat) : Int) from by
      rw [hs]
      generalize n ^ i % 7823 = x at hp ⊢
      have hx : x * n ≤ 7823 * 7823 := Nat.mul_le_mul (by omega) (by omega)
      have : ((x : Int) * (n : Int)) = ((x * n : Nat) : Int) := by simp
      rw [this, wrap_in (by omega) (by omega), show (7823 : Int) = ((7823 : Nat) : Int) from rfl, tmod_cast]]
    have e2 : wrap64 ((i : Int) + 1) = ((i + 1 : Nat) : Int) := by rw [wrap_in (by omega) (by omega)]; rfl
    rw [e2]
    exact times_l0 n t hn ht d (i + 1) (by omega)
theorem times_any (n t : Nat) (hn : n < 7823) (ht : t < 4096) : Ev (fun k => bagnallref_times.f k (n : Int) (t : Int)) ((pm 12 n t 1 7823 : Nat) : Int) := by
  unfold bagnallref_times.f
  rw [pm_eq 12 n t 1 7823 ht, Nat.one_mul]
  exact times_l0 n t hn (by omega) t 0 (by omega)
end Go.Proofs.Ytjceapbbapofmaa.FnsSignPublics
