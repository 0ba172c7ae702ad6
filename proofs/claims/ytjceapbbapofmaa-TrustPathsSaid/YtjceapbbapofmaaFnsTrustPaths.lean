/- The functions of package sign and of its reference, as printed, answer what the plain functions of SignMath say. -/
import Derived.Test.YtjceapbbapofmaaPTrustPathsx9
import Derived.Test.YtjceapbbapofmaaPTrustPathsx1
import Derived.Test.YtjceapbbapofmaaSignMath
namespace Go.Proofs.Ytjceapbbapofmaa.FnsTrustPaths
open Go.RowKit Go.Proofs.Ytjceapbbapofmaa.PTrustPaths Go.Proofs.YtjceapbbapofmaaW.PrintWords Go.Proofs.YtjceapbbapofmaaW.PrintLast
open Go.Proofs.Ytjceapbbapofmaa.SignMath

theorem Ev.pos {α : Type} {c : Prop} [Decidable c] {g f : Nat → Option α} {r : α} (hc : c) (h : Ev g r) : Ev (fun k => if c then g k else f k) r :=
  h.congr fun _ => if_pos hc
theorem Ev.neg {α : Type} {c : Prop} [Decidable c] {g f : Nat → Option α} {r : α} (hc : ¬ c) (h : Ev f r) : Ev (fun k => if c then g k else f k) r :=
  h.congr fun _ => if_neg hc
theorem Ev.to {α : Type} {g : Nat → Option α} {r q : α} (h : Ev g r) (e : r = q) : Ev g q := e ▸ h

theorem Ev.use0 {α : Type} {g : Nat → Option α} {r : α} (h : ∀ k, g (k + 1) = some r) : Ev g r := Ev.step (f := fun _ => some r) h (Ev.now r)
theorem Ev.use1 {α β : Type} {g : Nat → Option α} {g1 : Nat → Option β} {r : α} {b : β} (h1 : Ev g1 b) (h : ∀ k, g1 k = some b → g (k + 1) = some r) : Ev g r := by
  obtain ⟨K, hK⟩ := h1
  exact ⟨K + 1, fun k hk => by obtain ⟨m, rfl⟩ : ∃ m, k = m + 1 := ⟨k - 1, by omega⟩; exact h m (hK m (by omega))⟩
theorem Ev.use2 {α β γ : Type} {g : Nat → Option α} {g1 : Nat → Option β} {g2 : Nat → Option γ} {r : α} {b : β} {c : γ} (h1 : Ev g1 b) (h2 : Ev g2 c) (h : ∀ k, g1 k = some b → g2 k = some c → g (k + 1) = some r) : Ev g r := by
  obtain ⟨K, hK⟩ := h1
  obtain ⟨M, hM⟩ := h2
  exact ⟨max K M + 1, fun k hk => by obtain ⟨m, rfl⟩ : ∃ m, k = m + 1 := ⟨k - 1, by omega⟩; exact h m (hK m (by omega)) (hM m (by omega))⟩

theorem power_l0 (m : Nat) (h1 : 1 ≤ m) (hm : m ≤ 7823) : ∀ (f n t out : Nat), n < m → out < m → t < 2 ^ f → t < 10000 →
    Ev (fun k => sign_power.l0 k (n : Int) (t : Int) (m : Int) (out : Int)) ((pm f n t out m : Nat) : Int)
  | f, n, 0, out, hn, ho, ht, _ => by
    rw [pm_zero f n out m ho]
    exact Ev.step (fun k => rfl) (Ev.neg (by omega) (Ev.now _))
  | 0, n, t + 1, out, hn, ho, ht, _ => by simp at ht
  | f + 1, n, t + 1, out, hn, ho, ht, hlt => by
    have hnn : n * n ≤ 7823 * 7823 := Nat.mul_le_mul (by omega) (by omega)
    have hon : out * n ≤ 7823 * 7823 := Nat.mul_le_mul (by omega) (by omega)
    have e1 : Int.tmod (wrap64 ((n : Int) * (n : Int))) (m : Int) = ((n * n % m : Nat) : Int) := by
      have : ((n : Int) * (n : Int)) = ((n * n : Nat) : Int) := by simp
      rw [this, wrap_in (by omega) (by omega), tmod_cast]
    have e2 : Int.tmod (wrap64 ((out : Int) * (n : Int))) (m : Int) = ((out * n % m : Nat) : Int) := by
      have : ((out : Int) * (n : Int)) = ((out * n : Nat) : Int) := by simp
      rw [this, wrap_in (by omega) (by omega), tmod_cast]
    have e3 : wrap64 (Int.tdiv ((t + 1 : Nat) : Int) 2) = (((t + 1) / 2 : Nat) : Int) := by
      rw [show (2 : Int) = ((2 : Nat) : Int) from rfl, tdiv_cast, wrap_in (by omega) (by omega)]
    have e4 : Int.tmod ((t + 1 : Nat) : Int) 2 = (((t + 1) % 2 : Nat) : Int) := by
      rw [show (2 : Int) = ((2 : Nat) : Int) from rfl, tmod_cast]
    have hh : (t + 1) / 2 < 2 ^ f := by rw [Nat.pow_succ] at ht; omega
    refine Ev.step (fun k => rfl) (Ev.pos (by omega) ?_)
    simp only [e1, e2, e3, e4]
    unfold pm
    by_cases ho2 : (t + 1) % 2 = 1
    · refine Ev.pos (by omega) (Ev.neg (by omega) ?_)
      rw [if_pos ho2]
      exact power_l0 m h1 hm f _ _ _ (Nat.mod_lt _ (by omega)) (Nat.mod_lt _ (by omega)) hh (by omega)
    · refine Ev.neg (by omega) (Ev.neg (by omega) ?_)
      rw [if_neg ho2]
      exact power_l0 m h1 hm f _ _ _ (Nat.mod_lt _ (by omega)) ho hh (by omega)

/-- The power of n with the exponent t, modulo m. -/
theorem power_any (n t m : Nat) (h1 : 2 ≤ m) (hm : m ≤ 7823) (hn : n < m) (ht : t < 4096) :
    Ev (fun k => sign_power.f k (n : Int) (t : Int) (m : Int)) ((pm 12 n t 1 m : Nat) : Int) := by
  unfold sign_power.f
  refine Ev.neg (by omega) ?_
  have e : Int.tmod (n : Int) (m : Int) = (n : Int) := by rw [tmod_cast, Nat.mod_eq_of_lt hn]
  rw [e]
  exact power_l0 m (by omega) hm 12 n t 1 hn (by omega) ht (by omega)
def okBytes (l : List Int) : Prop := ∀ x ∈ l, 0 ≤ x ∧ x ≤ 255
theorem rd_mem {l : List Int} {i : Nat} (h : i < l.length) : rd l (i : Int) = l[i] := by
  unfold rd
  simp [List.getD_eq_getElem?_getD, h]
theorem okBytes_rd {l : List Int} (ok : okBytes l) {i : Nat} (h : i < l.length) : 0 ≤ rd l (i : Int) ∧ rd l (i : Int) ≤ 255 := by
  rw [rd_mem h]; exact ok _ (List.getElem_mem h)
theorem hsh_take {n : Nat} {l : List Int} {i : Nat} (h : i < l.length) : hsh n (l.take (i + 1)) = hstep (hsh n (l.take i)) (rd l (i : Int)) := by
  rw [List.take_succ_eq_append_getElem h, hsh_snoc, rd_mem h]
theorem hash_l0 (n : Nat) (hn : n < 3911) (l : List Int) (ok : okBytes l) (hl : l.length ≤ 600) : ∀ (d i : Nat), i + d = l.length →
    Ev (fun k => sign_hash.l0 k ((hsh n (l.take i) : Nat) : Int) l (l.length : Int) (i : Int)) ((hsh n l : Nat) : Int)
  | 0, i, hi => by
    refine Ev.step (fun k => rfl) (Ev.neg (by omega) ?_)
    rw [List.take_of_length_le (by omega)]
    exact Ev.now _
  | d + 1, i, hi => by
    refine Ev.step (fun k => rfl) (Ev.pos (by omega) (Ev.pos (by omega) (Ev.pos (by omega) ?_)))
    have hb := okBytes_rd ok (i := i) (by omega)
    have hp := hsh_lt (l.take i) n hn
    have ht := hsh_take (n := n) (l := l) (i := i) (by omega)
    obtain ⟨b, hb0⟩ : ∃ b : Nat, rd l (i : Int) = (b : Int) := ⟨(rd l (i : Int)).toNat, by omega⟩
    have e : Int.tmod (wrap64 (wrap64 (wrap64 (((hsh n (l.take i) : Nat) : Int) * 257) + wrap64 (rd l (i : Int))) + 1)) 3911 = ((hsh n (l.take (i + 1)) : Nat) : Int) := by
      rw [ht, hb0]
      rw [hb0] at hb
      generalize hsh n (l.take i) = x at hp ⊢
      unfold hstep
      rw [Int.toNat_natCast, ← tmod_cast]
      rw [wrap_in (n := (x : Int) * 257) (by omega) (by omega), wrap_in (n := (b : Int)) (by omega) (by omega), wrap_in (n := (x : Int) * 257 + (b : Int)) (by omega) (by omega), wrap_in (by omega) (by omega)]
      rfl
    have e2 : wrap64 ((i : Int) + 1) = ((i + 1 : Nat) : Int) := by rw [wrap_in (by omega) (by omega)]; rfl
    rw [e, e2]
    exact hash_l0 n hn l ok hl d (i + 1) (by omega)
theorem hash_any (r : Nat) (l : List Int) (ok : okBytes l) (hl : l.length ≤ 600) : Ev (fun k => sign_hash.f k (r : Int) l) ((hsh (r % 3911) l : Nat) : Int) := by
  unfold sign_hash.f
  have e : Int.tmod (r : Int) 3911 = ((hsh (r % 3911) (l.take 0) : Nat) : Int) := by
    rw [show (3911 : Int) = ((3911 : Nat) : Int) from rfl, tmod_cast]; rfl
  rw [e]
  exact hash_l0 (r % 3911) (Nat.mod_lt _ (by omega)) l ok hl l.length 0 (by omega)
theorem refHash_l0 (n : Nat) (hn : n < 3911) (l : List Int) (ok : okBytes l) (hl : l.length ≤ 600) : ∀ (d i : Nat), i + d = l.length →
    Ev (fun k => bagnallref_SignHash.l0 k l ((hsh n (l.take i) : Nat) : Int) (i : Int)) (((hsh n l : Nat) : Int), 0)
  | 0, i, hi => by
    refine Ev.step (fun k => rfl) (Ev.neg (by omega) ?_)
    rw [List.take_of_length_le (by omega)]
    exact Ev.now _
  | d + 1, i, hi => by
    refine Ev.step (fun k => rfl) (Ev.pos (by omega) (Ev.pos (by omega) ?_))
    have hb := okBytes_rd ok (i := i) (by omega)
    have hp := hsh_lt (l.take i) n hn
    have ht := hsh_take (n := n) (l := l) (i := i) (by omega)
    obtain ⟨b, hb0⟩ : ∃ b : Nat, rd l (i : Int) = (b : Int) := ⟨(rd l (i : Int)).toNat, by omega⟩
    have e : ∀ v, v = wrap64 (wrap64 (wrap64 (((hsh n (l.take i) : Nat) : Int) * 257) + wrap64 (rd l (i : Int))) + 1) → wrap64 (v - wrap64 (wrap64 (Int.tdiv v 3911) * 3911)) = ((hsh n (l.take (i + 1)) : Nat) : Int) := by
      rintro v rfl
      rw [ht, hb0]
      rw [hb0] at hb
      generalize hsh n (l.take i) = x at hp ⊢
      unfold hstep
      rw [Int.toNat_natCast]
      rw [wrap_in (n := (x : Int) * 257) (by omega) (by omega), wrap_in (n := (b : Int)) (by omega) (by omega), wrap_in (n := (x : Int) * 257 + (b : Int)) (by omega) (by omega), wrap_in (n := (x : Int) * 257 + (b : Int) + 1) (by omega) (by omega)]
      have c : (x : Int) * 257 + (b : Int) + 1 = ((x * 257 + b + 1 : Nat) : Int) := by simp
      rw [c, show (3911 : Int) = ((3911 : Nat) : Int) from rfl, tdiv_cast]
      generalize x * 257 + b + 1 = y at c
      rw [wrap_in (n := ((y / 3911 : Nat) : Int)) (by omega) (by omega), wrap_in (n := ((y / 3911 : Nat) : Int) * ((3911 : Nat) : Int)) (by omega) (by omega), wrap_in (by omega) (by omega)]
      omega
    have e2 : wrap64 ((i : Int) + 1) = ((i + 1 : Nat) : Int) := by rw [wrap_in (by omega) (by omega)]; rfl
    rw [e _ rfl, e2]
    exact refHash_l0 n hn l ok hl d (i + 1) (by omega)
theorem refHash_ok (r : Nat) (hr : r < 7823) (l : List Int) (ok : okBytes l) (hl : l.length ≤ 600) : Ev (fun k => bagnallref_SignHash.f k (r : Int) l) (((hsh (r % 3911) l : Nat) : Int), 0) := by
  unfold bagnallref_SignHash.f
  refine Ev.neg (by omega) (Ev.step (fun k => rfl) ?_)
  refine Ev.neg (by simp; omega) (Ev.neg (by omega) ?_)
  have e : Int.tmod (r : Int) 3911 = ((hsh (r % 3911) (l.take 0) : Nat) : Int) := by
    rw [show (3911 : Int) = ((3911 : Nat) : Int) from rfl, tmod_cast]; rfl
  rw [e]
  exact refHash_l0 (r % 3911) (Nat.mod_lt _ (by omega)) l ok hl l.length 0 (by omega)
theorem times_l0 (n t : Nat) (hn : n < 7823) (ht : t < 10000) : ∀ (d i : Nat), i + d = t →
    Ev (fun k => bagnallref_times.l0 k (n : Int) (t : Int) ((n ^ i % 7823 : Nat) : Int) (i : Int)) ((n ^ t % 7823 : Nat) : Int)
  | 0, i, hi => by
    refine Ev.step (fun k => rfl) (Ev.neg (by omega) ?_)
    obtain rfl : i = t := by omega
    exact Ev.now _
  | d + 1, i, hi => by
    refine Ev.step (fun k => rfl) (Ev.pos (by omega) ?_)
    have hp : n ^ i % 7823 < 7823 := Nat.mod_lt _ (by omega)
    have hs : n ^ (i + 1) % 7823 = n ^ i % 7823 * n % 7823 := by rw [Nat.pow_succ, Nat.mul_mod, Nat.mul_mod (n ^ i % 7823) n, Nat.mod_mod]
    rw [show Int.tmod (wrap64 (((n ^ i % 7823 : Nat) : Int) * (n : Int))) 7823 = ((n ^ (i + 1) % 7823 : Nat) : Int) from by
      rw [hs]
      generalize n ^ i % 7823 = x at hp ⊢
      have hx : x * n ≤ 7823 * 7823 := Nat.mul_le_mul (by omega) (by omega)
      have : ((x : Int) * (n : Int)) = ((x * n : Nat) : Int) := by simp
      rw [this, wrap_in (by omega) (by omega), show (7823 : Int) = ((7823 : Nat) : Int) from rfl, tmod_cast]]
    have e2 : wrap64 ((i : Int) + 1) = ((i + 1 : Nat) : Int) := by rw [wrap_in (by omega) (by omega)]; rfl
    rw [e2]
    exact times_l0 n t hn ht d (i + 1) (by omega)
theorem times_any (n t : Nat) (hn : n < 7823) (ht : t < 4096) : Ev (fun k => bagnallref_times.f k (n : Int) (t : Int)) ((pm 12 n t 1 7823 : Nat) : Int) := by
  unfold bagnallref_times.f
  rw [pm_eq 12 n t 1 7823 ht, Nat.one_mul]
  exact times_l0 n t hn (by omega) t 0 (by omega)
def isPub (a : Int) : Bool := decide (2 ≤ a) && decide (a < 7823) && (pm 12 a.toNat 3911 1 7823 == 1)
theorem key_any (a : Int) : Ev (fun k => sign_Key.f k a) (isPub a) := by
  unfold sign_Key.f isPub
  by_cases h2 : 2 ≤ a
  · refine Ev.pos h2 ?_
    by_cases h3 : a < 7823
    · refine Ev.pos h3 ?_
      obtain ⟨n, rfl⟩ := Int.eq_ofNat_of_zero_le (show 0 ≤ a by omega)
      refine Ev.bind (power_any n 3911 7823 (by omega) (by omega) (by omega) (by omega)) (Ev.to (Ev.now _) ?_)
      rw [Int.toNat_natCast, decide_eq_true h2, decide_eq_true h3]
      simp only [Bool.true_and]
      rw [Bool.eq_iff_iff, beq_iff_eq, beq_iff_eq]
      omega
    · exact Ev.neg h3 (Ev.to (Ev.now _) (by simp [h3]))
  · exact Ev.neg h2 (Ev.to (Ev.now _) (by simp [h2]))
theorem isKey_l0 (n : Nat) : ∀ (d i : Nat), i + d = 3912 → 2 ≤ i →
    ∃ b, Ev (fun k => bagnallref_isKey.l0 k (n : Int) (i : Int)) b ∧ (b = true ↔ ∃ j, i ≤ j ∧ j < 3912 ∧ j * j % 7823 = n)
  | 0, i, hi, _ => ⟨false, Ev.step (fun k => rfl) (Ev.neg (by omega) (Ev.now _)), by simp; intro x; omega⟩
  | d + 1, i, hi, h2 => by
    have hii : i * i ≤ 3912 * 3912 := Nat.mul_le_mul (by omega) (by omega)
    have e1 : Int.tmod (wrap64 ((i : Int) * (i : Int))) 7823 = ((i * i % 7823 : Nat) : Int) := by
      have : ((i : Int) * (i : Int)) = ((i * i : Nat) : Int) := by simp
      rw [this, wrap_in (by omega) (by omega), show (7823 : Int) = ((7823 : Nat) : Int) from rfl, tmod_cast]
    have e2 : wrap64 ((i : Int) + 1) = ((i + 1 : Nat) : Int) := by rw [wrap_in (by omega) (by omega)]; rfl
    by_cases h : i * i % 7823 = n
    · refine ⟨true, Ev.step (fun k => rfl) (Ev.pos (by omega) (Ev.pos (by rw [e1, h]) (Ev.now _))), by simp; exact ⟨i, by omega, by omega, h⟩⟩
    · obtain ⟨b, hb, hiff⟩ := isKey_l0 n d (i + 1) (by omega) (by omega)
      refine ⟨b, Ev.step (fun k => rfl) (Ev.pos (by omega) (Ev.neg (by rw [e1]; omega) (by rw [e2]; exact hb))), hiff.trans ⟨?_, ?_⟩⟩
      · rintro ⟨j, h1, h2, h3⟩; exact ⟨j, by omega, h2, h3⟩
      · rintro ⟨j, h1, h2, h3⟩
        refine ⟨j, ?_, h2, h3⟩
        rcases Nat.lt_or_ge i j with hlt | hge
        · exact hlt
        · obtain rfl : j = i := by omega
          exact absurd h3 h
theorem isKey_any (a : Int) : Ev (fun k => bagnallref_isKey.f k a) (isPub a) := by
  unfold bagnallref_isKey.f
  by_cases h2 : a < 2
  · refine Ev.pos h2 (Ev.step (f := fun _ => some false) (fun k => by simp only [bagnallref_isKey.j0, if_true]) (Ev.to (Ev.now _) ?_))
    unfold isPub; rw [decide_eq_false (show ¬ 2 ≤ a by omega)]; rfl
  · refine Ev.neg h2 (Ev.step (fun k => rfl) ?_)
    by_cases h3 : a > 7822
    · refine Ev.pos (by simpa using h3) (Ev.to (Ev.now _) ?_)
      unfold isPub; rw [decide_eq_false (show ¬ a < 7823 by omega)]; simp
    · refine Ev.neg (by simpa using h3) ?_
      obtain ⟨n, rfl⟩ := Int.eq_ofNat_of_zero_le (show 0 ≤ a by omega)
      obtain ⟨b, hb, hiff⟩ := isKey_l0 n 3910 2 (by omega) (by omega)
      refine Ev.to hb ?_
      unfold isPub
      rw [Int.toNat_natCast, decide_eq_true (show (2 : Int) ≤ (n : Int) by omega), decide_eq_true (show (n : Int) < 7823 by omega)]
      simp only [Bool.true_and]
      rw [Bool.eq_iff_iff, hiff, beq_iff_eq]
      exact (key_iff n (by omega) (by omega)).symm
def mayB (r s : Int) : Bool := isPub r && decide (0 ≤ s) && decide (s < 3911)
theorem isPub_bd {a : Int} (h : isPub a = true) : 2 ≤ a ∧ a < 7823 := by
  unfold isPub at h
  simp only [Bool.and_eq_true, decide_eq_true_eq] at h
  exact h.1
theorem mayB_bd {r s : Int} (h : mayB r s = true) : 2 ≤ r ∧ r < 7823 ∧ 0 ≤ s ∧ s < 3911 := by
  unfold mayB at h
  simp only [Bool.and_eq_true, decide_eq_true_eq] at h
  obtain ⟨⟨h1, h2⟩, h3⟩ := h
  exact ⟨(isPub_bd h1).1, (isPub_bd h1).2, h2, h3⟩
theorem may_any (r s : Int) : Ev (fun k => sign_May.f k r s) (mayB r s) := by
  unfold sign_May.f
  refine Ev.bind (key_any r) ?_
  unfold mayB
  cases h : isPub r
  · exact Ev.neg (by simp) (Ev.now _)
  · refine Ev.pos rfl ?_
    by_cases h0 : s ≥ 0
    · exact Ev.pos h0 (Ev.to (Ev.now _) (by rw [decide_eq_true (show 0 ≤ s from h0)]; rfl))
    · exact Ev.neg h0 (Ev.to (Ev.now _) (by rw [decide_eq_false (show ¬ 0 ≤ s from h0)]; rfl))
theorem refMay_any (r s : Int) : Ev (fun k => bagnallref_signMay.f k r s) (mayB r s) := by
  unfold bagnallref_signMay.f
  refine Ev.bind (isKey_any r) ?_
  unfold mayB
  cases h : isPub r
  · exact Ev.neg (by simp) (Ev.now _)
  · refine Ev.pos rfl ?_
    by_cases h0 : s ≥ 0
    · refine Ev.pos h0 (Ev.to (Ev.now _) ?_)
      rw [decide_eq_true (show 0 ≤ s from h0)]
      simp only [Bool.true_and]
      rw [Bool.eq_iff_iff, decide_eq_true_eq, decide_eq_true_eq]; omega
    · exact Ev.neg h0 (Ev.to (Ev.now _) (by rw [decide_eq_false (show ¬ 0 ≤ s from h0)]; rfl))
end Go.Proofs.Ytjceapbbapofmaa.FnsTrustPaths
