/- sign.Secret answers as the reference does, for every pair of texts and of signatures; no condition. -/
import Derived.Test.YtjceapbbapofmaaFnsSignSecrets
import Derived.OpenShut
namespace Go.Proofs.Ytjceapbbapofmaa.Pure
open Go.RowKit Go.Proofs.Ytjceapbbapofmaa.PSignSecrets Go.Proofs.YtjceapbbapofmaaW.PrintWords Go.Proofs.YtjceapbbapofmaaW.PrintLast
open Go.Proofs.Ytjceapbbapofmaa.FnsSignSecrets Go.Proofs.Ytjceapbbapofmaa.SignMath

/-- What is looked for: the number below 3911 that, times the difference a - b, is the difference s - o. -/
theorem found (a b s o : Nat) (ha : a < 3911) (hb : b < 3911) (hs : s < 3911) (ho : o < 3911) (hne : a ≠ b) :
    ∀ x : Nat, x < 3911 → (((x : Int) * a - (x : Int) * b - ((s : Int) - o)) % 3911 = 0 ↔ x = (s + 3911 - o) % 3911 * pm 12 ((a + 3911 - b) % 3911) 3909 1 3911 % 3911) := by
  intro x hx
  obtain ⟨d, hd⟩ : ∃ d, d = (a + 3911 - b) % 3911 := ⟨_, rfl⟩
  obtain ⟨t, ht⟩ : ∃ t, t = (s + 3911 - o) % 3911 := ⟨_, rfl⟩
  rw [← hd, ← ht]
  have hd1 : 1 ≤ d := by omega
  have hd2 : d < 3911 := by omega
  have hi := inverse d hd1 hd2
  generalize pm 12 d 3909 1 3911 = i at hi ⊢
  -- over Int, modulo 3911
  have hiZ : (d : Int) * i % 3911 = 1 := by have := Int.natCast_mul d i; omega
  have hdZ : ((d : Int) - (a - b)) % 3911 = 0 := by omega
  have htZ : ((t : Int) - (s - o)) % 3911 = 0 := by omega
  obtain ⟨u, hu⟩ : ∃ u : Int, (d : Int) - (a - b) = 3911 * u := ⟨((d : Int) - (a - b)) / 3911, by omega⟩
  obtain ⟨v, hv⟩ : ∃ v : Int, (t : Int) - (s - o) = 3911 * v := ⟨((t : Int) - (s - o)) / 3911, by omega⟩
  obtain ⟨z, hz⟩ : ∃ z : Int, (d : Int) * i = 1 + 3911 * z := ⟨(d : Int) * i / 3911, by omega⟩
  have e1 : (x : Int) * a - (x : Int) * b - ((s : Int) - o) = x * d - t + 3911 * (v - x * u) := by
    have h1 : (x : Int) * ((d : Int) - (a - b)) = x * (3911 * u) := by rw [hu]
    rw [Int.mul_sub, Int.mul_sub] at h1
    have h2 : (x : Int) * (3911 * u) = 3911 * (x * u) := by rw [Int.mul_left_comm]
    rw [h2] at h1
    rw [Int.mul_sub 3911]
    omega
  have e2 : ((x : Int) * a - (x : Int) * b - ((s : Int) - o)) % 3911 = ((x : Int) * d - t) % 3911 := by rw [e1, Int.add_mul_emod_self_left]
  rw [e2]
  constructor
  · intro h
    obtain ⟨y, hy⟩ : ∃ y : Int, (x : Int) * d - t = 3911 * y := ⟨((x : Int) * d - t) / 3911, by omega⟩
    -- x = x * (d * i) - 3911 .. = (t + 3911 y) * i ..
    have e3 : (t : Int) * i = x + 3911 * (x * z - y * i) := by
      have h1 : ((x : Int) * d - t) * i = 3911 * y * i := by rw [hy]
      rw [Int.sub_mul, Int.mul_assoc, hz, Int.mul_add, Int.mul_one, Int.mul_left_comm, Int.mul_assoc 3911] at h1
      rw [Int.mul_sub]
      omega
    have e4 : ((t : Int) * i) % 3911 = x := by
      rw [e3, Int.add_mul_emod_self_left]; omega
    have := Int.natCast_mul t i
    omega
  · intro h
    obtain ⟨y, hy⟩ : ∃ y : Int, (t : Int) * i = x + 3911 * y := ⟨(t : Int) * i / 3911, by
      have := Int.natCast_mul t i
      omega⟩
    have e3 : (x : Int) * d - t = 3911 * (t * z - y * d) := by
      have h1 : (t : Int) * (d * i) = (x + 3911 * y) * d := by rw [← hy, Int.mul_assoc, Int.mul_comm (i : Int)]
      rw [hz, Int.mul_add, Int.mul_one, Int.add_mul, Int.mul_left_comm, Int.mul_assoc 3911] at h1
      rw [Int.mul_sub]
      omega
    rw [e3, Int.mul_emod_right]

theorem tmod_zero (n : Int) : Int.tmod n 3911 = 0 ↔ n % 3911 = 0 := by
  rw [← Int.dvd_iff_tmod_eq_zero, ← Int.dvd_iff_emod_eq_zero]

theorem secret_l0 (a b s o X : Nat) (ha : a < 3911) (hb : b < 3911) (hs : s < 3911) (ho : o < 3911) (hX : X < 3911) (hf : ∀ x : Nat, x < 3911 → (((x : Int) * a - (x : Int) * b - ((s : Int) - o)) % 3911 = 0 ↔ x = X)) (r r' : Int) :
    ∀ (d i : Nat), i + d = X → Ev (fun k => bagnallref_SignSecret.l0 k (a : Int) (b : Int) (i : Int) r (s : Int) r' (o : Int)) ((X : Int), 0) := by
  have pre : ∀ i : Nat, i < 3911 → wrap64 (wrap64 (wrap64 ((i : Int) * (a : Int)) - wrap64 ((i : Int) * (b : Int))) - wrap64 ((s : Int) - (o : Int))) = (i : Int) * a - (i : Int) * b - ((s : Int) - o) := by
    intro i hi
    have h1 : (i : Int) * a ≤ 3911 * 3911 := by have h := Nat.mul_le_mul (by omega : i ≤ 3911) (by omega : a ≤ 3911); have := Int.natCast_mul i a; omega
    have h2 : (i : Int) * b ≤ 3911 * 3911 := by have h := Nat.mul_le_mul (by omega : i ≤ 3911) (by omega : b ≤ 3911); have := Int.natCast_mul i b; omega
    have h3 : 0 ≤ (i : Int) * a := Int.mul_nonneg (by omega) (by omega)
    have h4 : 0 ≤ (i : Int) * b := Int.mul_nonneg (by omega) (by omega)
    rw [wrap_in (n := (i : Int) * a) (by omega) (by omega), wrap_in (n := (i : Int) * b) (by omega) (by omega), wrap_in (n := (s : Int) - o) (by omega) (by omega), wrap_in (n := (i : Int) * a - (i : Int) * b) (by omega) (by omega), wrap_in (by omega) (by omega)]
  intro d
  induction d with
  | zero =>
    intro i hi
    obtain rfl : i = X := by omega
    refine Ev.step (fun k => rfl) (Ev.pos (by omega) (Ev.pos ?_ (Ev.now _)))
    rw [pre i hX, tmod_zero]
    exact (hf i hX).2 rfl
  | succ d ih =>
    intro i hi
    refine Ev.step (fun k => rfl) (Ev.pos (by omega) (Ev.neg ?_ ?_))
    · rw [pre i (by omega), tmod_zero, hf i (by omega)]
      omega
    · have e2 : wrap64 ((i : Int) + 1) = ((i + 1 : Nat) : Int) := by rw [wrap_in (by omega) (by omega)]; rfl
      rw [e2]
      exact ih (i + 1) (by omega)

theorem secrets (l m : List Int) (okl : okBytes l) (okm : okBytes m) (r s r' o : Int) : ∃ q, Ev (fun k => sign_Secret.f k l m r s r' o) q ∧ Ev (fun k => bagnallref_SignSecret.f k l m r s r' o) q := by
  unfold sign_Secret.f bagnallref_SignSecret.f
  cases h0 : mayB r s
  · exact ⟨(0, 2), Ev.bind (may_any r s) (by rw [h0]; exact Ev.neg (by simp) (Ev.use0 fun k => by simp [sign_Secret.j0])), Ev.bind (refMay_any r s) (by rw [h0]; exact Ev.neg (by simp) (Ev.use0 fun k => by simp [bagnallref_SignSecret.j0]))⟩
  cases h1 : mayB r' o
  · exact ⟨(0, 2), Ev.bind (may_any r s) (by rw [h0]; exact Ev.pos rfl (Ev.bind (may_any r' o) (by rw [h1]; exact Ev.use0 fun k => by simp [sign_Secret.j0]))), Ev.bind (refMay_any r s) (by rw [h0]; exact Ev.pos rfl (Ev.bind (refMay_any r' o) (by rw [h1]; exact Ev.use0 fun k => by simp [bagnallref_SignSecret.j0])))⟩
  suffices h : ∃ q, Ev (fun k => sign_Secret.j0 k l m false r s r' o) q ∧ Ev (fun k => bagnallref_SignSecret.j0 k l m false r s r' o) q by
    obtain ⟨q, hq, hq'⟩ := h
    exact ⟨q, Ev.bind (may_any r s) (by rw [h0]; exact Ev.pos rfl (Ev.bind (may_any r' o) (by rw [h1]; exact hq))), Ev.bind (refMay_any r s) (by rw [h0]; exact Ev.pos rfl (Ev.bind (refMay_any r' o) (by rw [h1]; exact hq')))⟩
  have one : (∃ b, (b = true ∨ ∃ _ : (l.length : Int) ≤ 600, (m.length : Int) ≤ 600 ∧ b = false) ∧ (∀ k, sign_Secret.j0 (k + 1) l m false r s r' o = sign_Secret.j1 k l m b r s r' o) ∧ (∀ k, bagnallref_SignSecret.j0 (k + 1) l m false r s r' o = bagnallref_SignSecret.j1 k l m b r s r' o)) := by
    by_cases hl : (l.length : Int) > 600
    · exact ⟨true, .inl rfl, fun k => by simp [sign_Secret.j0, hl], fun k => by simp [bagnallref_SignSecret.j0, hl]⟩
    · by_cases hm : (m.length : Int) > 600
      · exact ⟨true, .inl rfl, fun k => by simp [sign_Secret.j0, hl, hm], fun k => by simp [bagnallref_SignSecret.j0, hl, hm]⟩
      · exact ⟨false, .inr ⟨by omega, by omega, rfl⟩, fun k => by simp [sign_Secret.j0, hl, hm], fun k => by simp [bagnallref_SignSecret.j0, hl, hm]⟩
  obtain ⟨b, hb, g0, g1⟩ := one
  suffices h : ∃ q, Ev (fun k => sign_Secret.j1 k l m b r s r' o) q ∧ Ev (fun k => bagnallref_SignSecret.j1 k l m b r s r' o) q by
    obtain ⟨q, hq, hq'⟩ := h
    exact ⟨q, Ev.step g0 hq, Ev.step g1 hq'⟩
  rcases hb with rfl | ⟨hl, hm, rfl⟩
  · exact ⟨(0, 1), Ev.use0 fun k => by simp [sign_Secret.j1], Ev.use0 fun k => by simp [bagnallref_SignSecret.j1]⟩
  by_cases hr : ¬ r = r'
  · exact ⟨(0, 4), Ev.use0 fun k => by simp [sign_Secret.j1, hr], Ev.use0 fun k => by simp [bagnallref_SignSecret.j1, hr]⟩
  obtain rfl : r = r' := Decidable.not_not.1 hr
  obtain ⟨r2, r7, s0, s3⟩ := mayB_bd h0
  obtain ⟨_, _, o0, o3⟩ := mayB_bd h1
  obtain ⟨x, rfl⟩ := Int.eq_ofNat_of_zero_le (show 0 ≤ r by omega)
  obtain ⟨y, rfl⟩ := Int.eq_ofNat_of_zero_le s0
  obtain ⟨z, rfl⟩ := Int.eq_ofNat_of_zero_le o0
  have e1 := hash_any x l okl (by omega)
  have e2 := hash_any x m okm (by omega)
  have f1 := refHash_ok x (by omega) l okl (by omega)
  have f2 := refHash_ok x (by omega) m okm (by omega)
  have hu := hsh_lt l (x % 3911) (Nat.mod_lt _ (by omega))
  have hv := hsh_lt m (x % 3911) (Nat.mod_lt _ (by omega))
  generalize hsh (x % 3911) l = u at *
  generalize hsh (x % 3911) m = v at *
  have d0 : wrap64 ((u : Int) - (v : Int)) = (u : Int) - v := wrap_in (by omega) (by omega)
  by_cases huv : u = v
  · subst huv
    refine ⟨(0, 8), Ev.use2 e1 e2 fun k g1 g2 => ?_, Ev.use2 f1 f2 fun k g1 g2 => ?_⟩
    · simp only [sign_Secret.j1, g1, g2, Option.bind_some, d0]; simp
    · simp only [bagnallref_SignSecret.j1, g1, g2, Option.bind_some]; simp
  have hfound := found u v y z hu hv (by omega) (by omega) huv
  have d1 : Int.tmod (wrap64 (((u : Int) - v) + 3911)) 3911 = (((u + 3911 - v) % 3911 : Nat) : Int) := by
    rw [wrap_in (by omega) (by omega), show (u : Int) - v + 3911 = ((u + 3911 - v : Nat) : Int) by omega, show (3911 : Int) = ((3911 : Nat) : Int) from rfl, tmod_cast]
  have d2 : Int.tmod (wrap64 (wrap64 ((y : Int) - (z : Int)) + 3911)) 3911 = (((y + 3911 - z) % 3911 : Nat) : Int) := by
    rw [wrap_in (n := (y : Int) - z) (by omega) (by omega), wrap_in (by omega) (by omega), show (y : Int) - z + 3911 = ((y + 3911 - z : Nat) : Int) by omega, show (3911 : Int) = ((3911 : Nat) : Int) from rfl, tmod_cast]
  have e3 := power_any ((u + 3911 - v) % 3911) 3909 3911 (by omega) (by omega) (Nat.mod_lt _ (by omega)) (by omega)
  have hp := pm_lt 12 ((u + 3911 - v) % 3911) 3909 1 3911 (by omega)
  have d3 : Int.tmod (wrap64 ((((y + 3911 - z) % 3911 : Nat) : Int) * ((pm 12 ((u + 3911 - v) % 3911) 3909 1 3911 : Nat) : Int))) 3911 = (((y + 3911 - z) % 3911 * pm 12 ((u + 3911 - v) % 3911) 3909 1 3911 % 3911 : Nat) : Int) := by
    have ht : (y + 3911 - z) % 3911 < 3911 := Nat.mod_lt _ (by omega)
    generalize pm 12 ((u + 3911 - v) % 3911) 3909 1 3911 = i at hp ⊢
    generalize (y + 3911 - z) % 3911 = t at ht ⊢
    have h1 : t * i ≤ 3911 * 3911 := Nat.mul_le_mul (by omega) (by omega)
    have : (t : Int) * (i : Int) = ((t * i : Nat) : Int) := by simp
    rw [this, wrap_in (by omega) (by omega), show (3911 : Int) = ((3911 : Nat) : Int) from rfl, tmod_cast]
  refine ⟨((((y + 3911 - z) % 3911 * pm 12 ((u + 3911 - v) % 3911) 3909 1 3911 % 3911 : Nat) : Int), 0), ?_, ?_⟩
  · obtain ⟨K1, g1⟩ := e1
    obtain ⟨K2, g2⟩ := e2
    obtain ⟨K3, g3⟩ := e3
    refine ⟨max (max K1 K2) K3 + 1, fun k hk => ?_⟩
    obtain ⟨k, rfl⟩ : ∃ m, k = m + 1 := ⟨k - 1, by omega⟩
    have g1 := g1 k (by omega)
    have g2 := g2 k (by omega)
    have g3 := g3 k (by omega)
    replace g3 : sign_power.f k (((u + 3911 - v) % 3911 : Nat) : Int) 3909 3911 = _ := g3
    simp only [sign_Secret.j1, g1, g2, Option.bind_some, d0, d1, d2, g3, d3]
    rw [if_neg (by simp), if_pos trivial, if_neg (by omega)]
  · have hl0 := secret_l0 u v y z _ hu hv (by omega) (by omega) (Nat.mod_lt _ (by omega)) hfound x x _ 0 (Nat.zero_add _)
    obtain ⟨K1, g1⟩ := f1
    obtain ⟨K2, g2⟩ := f2
    obtain ⟨K3, g3⟩ := hl0
    refine ⟨max (max K1 K2) K3 + 1, fun k hk => ?_⟩
    obtain ⟨k, rfl⟩ : ∃ m, k = m + 1 := ⟨k - 1, by omega⟩
    have g1 := g1 k (by omega)
    have g2 := g2 k (by omega)
    have g3 := g3 k (by omega)
    replace g3 : bagnallref_SignSecret.l0 k (u : Int) (v : Int) 0 _ _ _ _ = _ := g3
    simp only [bagnallref_SignSecret.j1, g1, g2, Option.bind_some]
    rw [if_neg (by simp), if_pos trivial, if_neg (by omega)]
    exact g3

theorem SignSecrets (l m : List Int) (r s r' o : Int) (hl : ∀ x ∈ l, (Lit.int .u8 x).wf = true) (hm : ∀ x ∈ m, (Lit.int .u8 x).wf = true) : ∃ k, bagnalllaw_SignSecrets.f k l m r s r' o = some true := by
  refine Ev.rounds ?_
  obtain ⟨q, hq, hq'⟩ := secrets l m (fun x hx => bounds_u8 (hl x hx)) (fun x hx => bounds_u8 (hm x hx)) r s r' o
  exact Ev.bind hq (Ev.bind hq' (Ev.pos rfl (Ev.to (Ev.now _) (by simp))))

theorem walkSignSecrets (W : World) (l0 : List Int) (A0 : Option Addr) (c0 : Nat) (hc0 : l0.length ≤ c0) (C0 : (Kd.int .u8).C W A0 l0.length l0) (ok0 : l0.length ≤ 9223372036854775807 ∧ l0.length * Try.prog.bytesOf 5 ≤ 140737488351232 ∧ ∀ x ∈ l0, (Lit.int .u8 x).wf = true) (l1 : List Int) (A1 : Option Addr) (c1 : Nat) (hc1 : l1.length ≤ c1) (C1 : (Kd.int .u8).C W A1 l1.length l1) (ok1 : l1.length ≤ 9223372036854775807 ∧ l1.length * Try.prog.bytesOf 5 ≤ 140737488351232 ∧ ∀ x ∈ l1, (Lit.int .u8 x).wf = true)
    (x2 : Int × Int) (_ : (Lit.int .i64 x2.1).wf = true ∧ (Lit.int .i64 x2.2).wf = true) (x3 : Int × Int) (_ : (Lit.int .i64 x3.1).wf = true ∧ (Lit.int .i64 x3.2).wf = true) :
    Calls Try.prog 10 #[.slice A0 l0.length c0, .slice A1 l1.length c1, .agg #[.int .i64 x2.1, .int .i64 x2.2], .agg #[.int .i64 x3.1, .int .i64 x3.2]] W fun e w' => e = .returned (.bool true) ∧ Below W.heap.size W w' := by
  obtain ⟨k, h⟩ := SignSecrets l0 l1 x2.1 x2.2 x3.1 x3.2 ok0.2.2 ok1.2.2
  exact bagnalllaw_SignSecrets.calls k A0 c0 l0 A1 c1 l1 x2.1 x2.2 x3.1 x3.2 true W C0 hc0 C1 hc1 h

end Go.Proofs.Ytjceapbbapofmaa.Pure
