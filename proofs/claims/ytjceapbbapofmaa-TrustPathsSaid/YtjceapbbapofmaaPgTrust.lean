/- trust.Good and the reference's tell the same; what is a key: for the laws on paths. -/
import Derived.Test.YtjceapbbapofmaaFnsTrustPaths
import Derived.OpenShut
namespace Go.Proofs.Ytjceapbbapofmaa.PgTrust
open Go.RowKit Go.Proofs.Ytjceapbbapofmaa.PTrustPaths Go.Proofs.YtjceapbbapofmaaW.PrintWords Go.Proofs.YtjceapbbapofmaaW.PrintLast
open Go.Proofs.Ytjceapbbapofmaa.FnsTrustPaths Go.Proofs.Ytjceapbbapofmaa.SignMath

theorem Ev.use3 {α β γ δ : Type} {g : Nat → Option α} {g1 : Nat → Option β} {g2 : Nat → Option γ} {g3 : Nat → Option δ} {r : α} {b : β} {c : γ} {d : δ} (h1 : Ev g1 b) (h2 : Ev g2 c) (h3 : Ev g3 d) (h : ∀ k, g1 k = some b → g2 k = some c → g3 k = some d → g (k + 1) = some r) : Ev g r := by
  obtain ⟨K, hK⟩ := h1
  obtain ⟨M, hM⟩ := h2
  obtain ⟨N, hN⟩ := h3
  exact ⟨max (max K M) N + 1, fun k hk => by obtain ⟨m, rfl⟩ : ∃ m, k = m + 1 := ⟨k - 1, by omega⟩; exact h m (hK m (by omega)) (hM m (by omega)) (hN m (by omega))⟩

theorem tails (p x y h A B : Nat) (l : List Int) (h2 : ¬ (l.length : Int) > 600) (e1 : Ev (fun k => sign_power.f k ((4 : Nat) : Int) (y : Int) ((7823 : Nat) : Int)) (A : Int)) (e2 : Ev (fun k => sign_hash.f k (x : Int) l) (h : Int)) (e3 : Ev (fun k => sign_power.f k (p : Int) (h : Int) ((7823 : Nat) : Int)) (B : Int))
    (f1 : Ev (fun k => bagnallref_times.f k ((4 : Nat) : Int) (y : Int)) (A : Int)) (f2 : Ev (fun k => bagnallref_SignHash.f k (x : Int) l) ((h : Int), 0)) (f3 : Ev (fun k => bagnallref_times.f k (p : Int) (h : Int)) (B : Int)) :
    ∃ q, Ev (fun k => sign_Check.j0 k (p : Int) l false (x : Int) (y : Int)) q ∧ Ev (fun k => bagnallref_SignCheck.j0 k (p : Int) l false (x : Int) (y : Int)) q := by
  have e : ∀ k, sign_Check.j0 (k + 1) (p : Int) l false (x : Int) (y : Int) = (if false = true then (some 2) else (if (l.length : Int) > 600 then (some 1) else ((sign_power.f k 4 y 7823).bind fun t108 => ((sign_hash.f k x l).bind fun t109 => ((sign_power.f k p t109 7823).bind fun t110 => (if t108 = (Int.tmod (wrap64 (x * t110)) 7823) then (some 0) else (some 9))))))) := fun _ => rfl
  have f : ∀ k, bagnallref_SignCheck.j0 (k + 1) (p : Int) l false (x : Int) (y : Int) = (if false = true then (some 2) else (if (l.length : Int) > 600 then (some 1) else ((bagnallref_SignHash.f k x l).bind fun bt => ((bagnallref_times.f k 4 y).bind fun t119 => ((bagnallref_times.f k p bt.1).bind fun t120 => (if t119 = (Int.tmod (wrap64 (x * t120)) 7823) then (some 0) else (some 9))))))) := fun _ => rfl
  by_cases hc : (A : Int) = Int.tmod (wrap64 ((x : Int) * (B : Int))) 7823
  · refine ⟨0, Ev.use3 e1 e2 e3 fun k g1 g2 g3 => (e k).trans ?_, Ev.use3 f1 f2 f3 fun k g1 g2 g3 => (f k).trans ?_⟩
    · replace g1 : sign_power.f k 4 (y : Int) 7823 = _ := g1
      replace g2 : sign_hash.f k (x : Int) l = _ := g2
      replace g3 : sign_power.f k (p : Int) (h : Int) 7823 = _ := g3
      rw [if_neg (by simp), if_neg h2, g1, Option.bind_some, g2, Option.bind_some, g3, Option.bind_some, if_pos hc]
    · replace g1 : bagnallref_times.f k 4 (y : Int) = _ := g1
      replace g2 : bagnallref_SignHash.f k (x : Int) l = _ := g2
      replace g3 : bagnallref_times.f k (p : Int) (h : Int) = _ := g3
      rw [if_neg (by simp), if_neg h2, g2, Option.bind_some, g1, Option.bind_some, g3, Option.bind_some, if_pos hc]
  · refine ⟨9, Ev.use3 e1 e2 e3 fun k g1 g2 g3 => (e k).trans ?_, Ev.use3 f1 f2 f3 fun k g1 g2 g3 => (f k).trans ?_⟩
    · replace g1 : sign_power.f k 4 (y : Int) 7823 = _ := g1
      replace g2 : sign_hash.f k (x : Int) l = _ := g2
      replace g3 : sign_power.f k (p : Int) (h : Int) 7823 = _ := g3
      rw [if_neg (by simp), if_neg h2, g1, Option.bind_some, g2, Option.bind_some, g3, Option.bind_some, if_neg hc]
    · replace g1 : bagnallref_times.f k 4 (y : Int) = _ := g1
      replace g2 : bagnallref_SignHash.f k (x : Int) l = _ := g2
      replace g3 : bagnallref_times.f k (p : Int) (h : Int) = _ := g3
      rw [if_neg (by simp), if_neg h2, g2, Option.bind_some, g1, Option.bind_some, g3, Option.bind_some, if_neg hc]

theorem checks (a0 : Int) (l : List Int) (ok : okBytes l) (r s : Int) : ∃ q, Ev (fun k => sign_Check.f k a0 l r s) q ∧ Ev (fun k => bagnallref_SignCheck.f k a0 l r s) q := by
  unfold sign_Check.f bagnallref_SignCheck.f
  cases h0 : isPub a0
  · exact ⟨2, Ev.bind (key_any a0) (by rw [h0]; exact Ev.neg (by simp) (Ev.use0 fun k => by simp [sign_Check.j0])), Ev.bind (isKey_any a0) (by rw [h0]; exact Ev.neg (by simp) (Ev.use0 fun k => by simp [bagnallref_SignCheck.j0]))⟩
  cases h1 : mayB r s
  · exact ⟨2, Ev.bind (key_any a0) (by rw [h0]; exact Ev.pos rfl (Ev.bind (may_any r s) (by rw [h1]; exact Ev.use0 fun k => by simp [sign_Check.j0]))), Ev.bind (isKey_any a0) (by rw [h0]; exact Ev.pos rfl (Ev.bind (refMay_any r s) (by rw [h1]; exact Ev.use0 fun k => by simp [bagnallref_SignCheck.j0])))⟩
  by_cases h2 : (l.length : Int) > 600
  · exact ⟨1, Ev.bind (key_any a0) (by rw [h0]; exact Ev.pos rfl (Ev.bind (may_any r s) (by rw [h1]; exact Ev.use0 fun k => by simp [sign_Check.j0, h2]))), Ev.bind (isKey_any a0) (by rw [h0]; exact Ev.pos rfl (Ev.bind (refMay_any r s) (by rw [h1]; exact Ev.use0 fun k => by simp [bagnallref_SignCheck.j0, h2])))⟩
  obtain ⟨r2, r7, s0, s3⟩ := mayB_bd h1
  obtain ⟨p2, p7⟩ := isPub_bd h0
  obtain ⟨p, rfl⟩ := Int.eq_ofNat_of_zero_le (show 0 ≤ a0 by omega)
  obtain ⟨x, rfl⟩ := Int.eq_ofNat_of_zero_le (show 0 ≤ r by omega)
  obtain ⟨y, rfl⟩ := Int.eq_ofNat_of_zero_le (show 0 ≤ s by omega)
  have hx := hsh_lt l (x % 3911) (Nat.mod_lt _ (by omega))
  have e1 := power_any 4 y 7823 (by omega) (by omega) (by omega) (by omega)
  have e2 := hash_any x l ok (by omega)
  have e3 := power_any p (hsh (x % 3911) l) 7823 (by omega) (by omega) (by omega) (by omega)
  have f1 := times_any 4 y (by omega) (by omega)
  have f2 := refHash_ok x (by omega) l ok (by omega)
  have f3 := times_any p (hsh (x % 3911) l) (by omega) (by omega)
  generalize hsh (x % 3911) l = h at *
  generalize pm 12 4 y 1 7823 = A at e1 f1
  generalize pm 12 p h 1 7823 = B at e3 f3
  have hj := tails p x y h A B l h2 e1 e2 e3 f1 f2 f3
  obtain ⟨q, hq, hq'⟩ := hj
  refine ⟨q, Ev.bind (key_any p) ?_, Ev.bind (isKey_any p) ?_⟩
  · rw [h0]
    refine Ev.pos rfl (Ev.bind (may_any x y) ?_)
    rw [h1]
    exact hq
  · rw [h0]
    refine Ev.pos rfl (Ev.bind (refMay_any x y) ?_)
    rw [h1]
    exact hq'

theorem goods (a b r s : Int) : ∃ q, Ev (fun k => trust_Good.f k a b r s) q ∧ Ev (fun k => bagnallref_TrustGood.f k a b r s) q := by
  unfold trust_Good.f bagnallref_TrustGood.f
  cases h0 : isPub b
  · exact ⟨2, Ev.bind (key_any b) (by rw [h0]; exact Ev.neg (by simp) (Ev.now _)), Ev.bind (isKey_any b) (by rw [h0]; exact Ev.neg (by simp) (Ev.now _))⟩
  obtain ⟨b2, b7⟩ := isPub_bd h0
  have e : [(wrap64 (Int.tdiv b 256)) % 256, (Int.tmod b 256) % 256] = ([(b / 256) % 256, b % 256] : List Int) := by
    rw [Int.tdiv_eq_ediv_of_nonneg (by omega), Int.tmod_eq_emod_of_nonneg (by omega), wrap_in (by omega) (by omega)]
    congr 2
    omega
  obtain ⟨q, hq, hq'⟩ := checks a [(b / 256) % 256, b % 256] (by intro x hx; simp at hx; omega) r s
  exact ⟨q, Ev.bind (key_any b) (by rw [h0]; exact Ev.pos rfl (Ev.bind hq (Ev.now _))), Ev.bind (isKey_any b) (by rw [h0, e]; exact Ev.pos rfl (Ev.bind hq' (Ev.now _)))⟩

/-- Is it a good one? (What trust.Good tells.) -/
noncomputable def goodZ (a b r s : Int) : Int := Classical.choose (goods a b r s)
theorem goodZ_ev (a b r s : Int) : Ev (fun k => trust_Good.f k a b r s) (goodZ a b r s) := (Classical.choose_spec (goods a b r s)).1
theorem goodZ_ref (a b r s : Int) : Ev (fun k => bagnallref_TrustGood.f k a b r s) (goodZ a b r s) := (Classical.choose_spec (goods a b r s)).2
theorem good_walk (a b r s : Int) (w : World) : Calls Try.prog 30 #[.agg #[.int .i64 a, .int .i64 b, .int .i64 r, .int .i64 s]] w fun e w' => e = .returned (.int .i64 (goodZ a b r s)) ∧ Below w.heap.size w w' := by
  obtain ⟨k, hk⟩ := (goodZ_ev a b r s).rounds
  exact trust_Good.calls k a b r s _ w hk
theorem refGood_walk (a b r s : Int) (w : World) : Calls Try.prog 31 #[.agg #[.int .i64 a, .int .i64 b, .int .i64 r, .int .i64 s]] w fun e w' => e = .returned (.int .i64 (goodZ a b r s)) ∧ Below w.heap.size w w' := by
  obtain ⟨k, hk⟩ := (goodZ_ref a b r s).rounds
  exact bagnallref_TrustGood.calls k a b r s _ w hk
theorem key_walk (a : Int) (w : World) : Calls Try.prog 45 #[.int .i64 a] w fun e w' => e = .returned (.bool (isPub a)) ∧ Drawn0 w w' := by
  obtain ⟨k, hk⟩ := (key_any a).rounds
  exact sign_Key.calls k a _ w hk
theorem isKey_walk (a : Int) (w : World) : Calls Try.prog 47 #[.int .i64 a] w fun e w' => e = .returned (.bool (isPub a)) ∧ Drawn0 w w' := by
  obtain ⟨k, hk⟩ := (isKey_any a).rounds
  exact bagnallref_isKey.calls k a _ w hk
end Go.Proofs.Ytjceapbbapofmaa.PgTrust
