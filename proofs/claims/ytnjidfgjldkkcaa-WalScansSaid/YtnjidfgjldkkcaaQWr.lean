/- wal.first, wal.Read, wal.Scan, walked. -/
import Derived.Test.YtnjidfgjldkkcaaQWs
import Derived.Test.YtnjidfgjldkkcaaQWt1
import Derived.Deep.QuietTactic
import Derived.BigQuiet
import Derived.Deep.RegionHeld3
import Derived.Laws.Cover3
import Derived.ChangeKeysEq
namespace Go.Proofs.Ytnjidfgjldkkcaa.Q
open Go.RowKit Go.Proofs.YtnjidfgjldkkcaaW.PrintWords Go.Proofs.YtnjidfgjldkkcaaW.PrintLast Go.Proofs.YtnjidfgjldkkcaaW.PrintMore
def headOk (b : List Int) : Bool := decide (2 ≤ b.length) && decide (1 ≤ rd b 0) && decide (rd b 0 ≤ 60) && decide (rd b 1 ≤ 1)
/-- The number of bytes of the head and the record. -/
def kOf (b : List Int) : Nat := 2 + (rd b 0).toNat
def sumOk (b : List Int) : Bool := decide (kOf b + 2 ≤ b.length) && ((sumsF 0 0 (b.take (kOf b))).1 % 256 == rd b (kOf b : Int) && (sumsF 0 0 (b.take (kOf b))).2 % 256 == rd b ((kOf b + 1 : Nat) : Int))
def firstF (b : List Int) : List Int × Bool × Nat := if (headOk b && sumOk b) = true then ((b.take (kOf b)).drop 2, rd b 1 == 1, kOf b + 2) else ([], false, 0)
theorem arr124 (a : Option Addr) (c : Nat) (w : World) : (Instr.arrayAt 124 (.slice a 2 c)).run Try.prog w = .ok (.pointer a) w := run_arrayAt w 124 5 2 a 2 c Try.underlying124 (Nat.le_refl _)
theorem eq124 (a b c d : Int) (w : World) : (Op.equalIn 10000 124 (.agg #[.int .u8 a, .int .u8 b]) (.agg #[.int .u8 c, .int .u8 d])).run Try.prog w = .ok (a == c && b == d) w := by
  obtain ⟨i, hi, _⟩ := Option.map_eq_some_iff.1 info5
  have hc : Try.prog.cellsOf 5 = 1 := by kernel_rfl
  rw [run_equalIn_array w 9999 _ _ Try.underlying124 hi, hc]
  have p1 : ∀ (x y : Int) (w : World), (part 5 #[.int .u8 x, .int .u8 y] 0).run Try.prog w = .ok (.int .u8 x) w := fun x y w => by simp [part, isAgg, run_underlying Try.underlying5]
  have p2 : ∀ (x y : Int) (w : World), (part 5 #[.int .u8 x, .int .u8 y] 1).run Try.prog w = .ok (.int .u8 y) w := fun x y w => by simp [part, isAgg, run_underlying Try.underlying5]
  have pe : ∀ (x y : Int) (w : World), (Op.equalIn 9999 5 (.int .u8 x) (.int .u8 y)).run Try.prog w = .ok (x == y) w := fun x y w => by
    rw [run_equalIn_int w 9998 5 .u8 .u8 _ _ Try.underlying5]
  simp only [show List.range 2 = [0, 1] from rfl, Op.eqItems, Nat.zero_mul, Nat.one_mul, Sem.run_bind, p1, pe, Result.andThen_ok]
  cases h1 : (a == c)
  · simp
  · simp only [Bool.not_true, Bool.false_eq_true, if_false, Bool.true_and]
    simp only [Sem.run_bind, p2, pe, Result.andThen_ok]
    cases h2 : (b == d) <;> simp
attribute [local go_sem] arr124 eq124
theorem wrap_k {k0 : Nat} (h : k0 ≤ 60) : IntKind.i64.wrap (2 + (k0 : Int) + 2) = 2 + (k0 : Int) + 2 := by
  rw [IntKind.wrap_i64]
  omega
set_option maxRecDepth 100000 in
set_option maxHeartbeats 4000000 in
theorem first_walk (A : Option Addr) (c : Nat) (b : List Int) (w : World) (hr : Kd.C (Kd.int .u8) w A b.length b) (hc : b.length ≤ c) (hl : b.length ≤ 1000000) :
    Calls Try.prog 74 #[.slice A b.length c] w fun e w' => ∃ A' c', e = .returned (.tuple #[.slice A' (firstF b).1.length c', .bool (firstF b).2.1, .int .i64 ((firstF b).2.2 : Int)]) ∧ (firstF b).1.length ≤ c' ∧ Kd.C (Kd.int .u8) w A' (firstF b).1.length (firstF b).1 ∧ Below w.heap.size w w' := by
  have HR := Aside0.mk hr
  have HC := Aside0.mk hc
  clear hr hc
  have none_ : ∀ (h : headOk b = false ∨ sumOk b = false), firstF b = ([], false, 0) := by
    intro h
    unfold firstF
    rw [if_neg]
    intro e
    rw [Bool.and_eq_true] at e
    rcases h with h | h <;> simp [h] at e
  have HN := Aside0.mk none_
  clear none_
  go_enter Try.func74, Try.ntmps74
  by_cases h2 : b.length < 2
  · have e := HN.out (.inl (by unfold headOk; rw [decide_eq_false (show ¬ 2 ≤ b.length by omega)]; rfl))
    replace e := Aside0.mk e
    go_wp2
    go_ret3
    rw [e.out]
    exact ⟨none, 0, rfl, Nat.le_refl _, Kd.C_nil _ _, Below.refl _ _⟩
  · obtain ⟨ad, rfl, hc0⟩ := Kd.at_int HR.out 0 (by omega) (by omega)
    obtain ⟨ad', had, hc1⟩ := Kd.at_int HR.out 1 (by omega) (by omega)
    obtain rfl := Option.some.inj had
    obtain ⟨x0, hx0⟩ : ∃ x, x = rd b 0 := ⟨_, rfl⟩
    obtain ⟨x1, hx1⟩ : ∃ x, x = rd b 1 := ⟨_, rfl⟩
    rw [← hx0] at hc0
    rw [← hx1] at hc1
    replace hx0 := Aside0.mk hx0
    replace hx1 := Aside0.mk hx1
    simp only [Int.toNat_zero, show (1 : Int).toNat = 1 from rfl] at hc0 hc1
    replace hc0 : w.cell? ad = some (.int .u8 x0) := hc0
    replace hc1 : w.cell? ⟨ad.block, ad.off + 1, none⟩ = some (.int .u8 x1) := hc1
    have hd2 : decide ((b.length : Int) < 2) = false := decide_eq_false (by omega)
    by_cases h3 : x0 < 1
    · have e := Aside0.mk (HN.out (.inl (by unfold headOk; rw [← hx0.out, decide_eq_false (show ¬ 1 ≤ x0 by omega), Bool.and_false]; rfl)))
      go_wp2
      go_ret3
      rw [e.out]
      exact ⟨none, 0, rfl, Nat.le_refl _, Kd.C_nil _ _, Below.refl _ _⟩
    by_cases h4 : 60 < x0
    · have e := Aside0.mk (HN.out (.inl (by unfold headOk; rw [← hx0.out, decide_eq_false (show ¬ x0 ≤ 60 by omega), Bool.and_false]; rfl)))
      go_wp2
      go_ret3
      rw [e.out]
      exact ⟨none, 0, rfl, Nat.le_refl _, Kd.C_nil _ _, Below.refl _ _⟩
    by_cases h5 : 1 < x1
    · have e := Aside0.mk (HN.out (.inl (by unfold headOk; rw [← hx1.out, decide_eq_false (show ¬ x1 ≤ 1 by omega), Bool.and_false])))
      go_wp2
      go_ret3
      rw [e.out]
      exact ⟨none, 0, rfl, Nat.le_refl _, Kd.C_nil _ _, Below.refl _ _⟩
    have hh : Aside0 (headOk b = true) := ⟨by unfold headOk; rw [← hx0.out, ← hx1.out, decide_eq_true (show 2 ≤ b.length by omega), decide_eq_true (show 1 ≤ x0 by omega), decide_eq_true (show x0 ≤ 60 by omega), decide_eq_true (show x1 ≤ 1 by omega)]; rfl⟩
    obtain ⟨k0, rfl⟩ : ∃ k0 : Nat, x0 = k0 := ⟨x0.toNat, by omega⟩
    have hk : Aside0 (kOf b = 2 + k0) := ⟨by unfold kOf; rw [← hx0.out]; simp⟩
    by_cases h6 : b.length < k0 + 4
    · have e := Aside0.mk (HN.out (.inr (by unfold sumOk; rw [hk.out, decide_eq_false (show ¬ 2 + k0 + 2 ≤ b.length by omega), Bool.false_and])))
      have hd6 : decide ((b.length : Int) < 2 + (k0 : Int) + 2) = true := decide_eq_true (by omega)
      have hw6 : IntKind.i64.wrap (2 + (k0 : Int) + 2) = 2 + (k0 : Int) + 2 := wrap_k (by omega)
      go_wp2
      go_quiet (fail)
      go_wp2
      go_ret3
      rw [e.out]
      exact ⟨none, 0, rfl, Nat.le_refl _, Kd.C_nil _ _, pw_below_drewN (Below.refl _ _) _⟩
    have hd6 : decide ((b.length : Int) < 2 + (k0 : Int) + 2) = false := decide_eq_false (by omega)
    have hw6 : IntKind.i64.wrap (2 + (k0 : Int) + 2) = 2 + (k0 : Int) + 2 := wrap_k (by omega)
    have hT := Aside0.mk (Kd.C_take HR.out (show 2 + k0 ≤ b.length by omega))
    obtain ⟨ad', had, hc2⟩ := Kd.at_int HR.out (((2 + k0 : Nat) : Int)) (by omega) (by omega)
    obtain rfl := Option.some.inj had
    obtain ⟨ad', had, hc3⟩ := Kd.at_int HR.out (((2 + k0 + 1 : Nat) : Int)) (by omega) (by omega)
    obtain rfl := Option.some.inj had
    obtain ⟨y0, hy0⟩ : ∃ x, x = rd b (((2 + k0 : Nat) : Int)) := ⟨_, rfl⟩
    obtain ⟨y1, hy1⟩ : ∃ x, x = rd b (((2 + k0 + 1 : Nat) : Int)) := ⟨_, rfl⟩
    rw [← hy0] at hc2
    rw [← hy1] at hc3
    replace hy0 := Aside0.mk hy0
    replace hy1 := Aside0.mk hy1
    simp only [Int.toNat_natCast] at hc2 hc3
    replace hc3 : w.cell? ⟨(ad.add (2 + k0)).block, (ad.add (2 + k0)).off + 1, none⟩ = some (.int .u8 y1) := by
      have : ad.add (2 + k0 + 1) = ⟨(ad.add (2 + k0)).block, (ad.add (2 + k0)).off + 1, none⟩ := by unfold Addr.add; rw [if_neg (by omega), if_neg (by omega)]; rfl
      rw [← this]; exact hc3
    have HB := Aside0.mk (Below.refl w.heap.size w)
    go_wp2
    have hcc := HC.out
    have f1 : (2 + (k0 : Int)).toNat = 2 + k0 := by omega
    have f2 : (2 + (k0 : Int) + 2).toNat = 2 + k0 + 2 := by omega
    have f3 : (0 : Int) ≤ 2 + (k0 : Int) := by omega
    have f4 : 2 + (k0 : Int) ≤ (c : Int) := by omega
    have f5 : (0 : Int) ≤ 2 + (k0 : Int) + 2 := by omega
    have f6 : 2 + (k0 : Int) + 2 ≤ (c : Int) := by omega
    have f7 : 2 + (k0 : Int) ≤ 2 + (k0 : Int) + 2 := by omega
    have f8 : 2 + k0 ≤ c := by omega
    have f9 : 2 + k0 + 2 ≤ c := by omega
    have f10 : ¬ c = 2 + k0 := by omega
    have f11 : ¬ c = 0 := by omega
    have f12 : 2 + k0 + 2 - (2 + k0) = 2 := by omega
    have f13 : (2 : Int) ≤ 2 + (k0 : Int) := by omega
    have f14 : ¬ k0 = 0 := by omega
    have f15 : ¬ 2 + k0 = 2 := by omega
    have f16 : 2 ≤ 2 + k0 := by omega
    have f17 : 2 + k0 - 2 = k0 := by omega
    have hS : ∀ w' : World, Below w.heap.size w w' → (w'.cell? (ad.add (2 + k0)) = some (.int .u8 y0) ∧ w'.cell? ⟨(ad.add (2 + k0)).block, (ad.add (2 + k0)).off + 1, none⟩ = some (.int .u8 y1) ∧ Below w.heap.size w w') := fun w' h => ⟨(h.cell (World.block_lt_of_cell? w _ hc2)).trans hc2, (h.cell (World.block_lt_of_cell? w _ hc3)).trans hc3, h⟩
    have hLt : Aside0 ((b.take (2 + k0)).length = 2 + k0) := ⟨by rw [List.length_take]; omega⟩
    have hTl : Aside0 ((b.take (2 + k0)).length ≤ c ∧ (b.take (2 + k0)).length ≤ 1000000000) := ⟨by rw [hLt.out]; omega⟩
    cases hq : ((sumsF 0 0 (List.take (2 + k0) b)).1 % 256 == y0 && (sumsF 0 0 (List.take (2 + k0) b)).2 % 256 == y1)
    all_goals go_region_held3 (fun w' => w'.cell? (ad.add (2 + k0)) = some (.int .u8 y0) ∧ w'.cell? ⟨(ad.add (2 + k0)).block, (ad.add (2 + k0)).off + 1, none⟩ = some (.int .u8 y1) ∧ Below w.heap.size w w') (first | assumption | exact hS _ (below_drew (Below.refl _ _))) (first | (go_at_call 86; refine ((hLt.out ▸ sums_walk (some ad) c (b.take (2 + k0)) _ (Kd.C_below hT.out (And.right (And.right (by assumption)))) hTl.out.1 hTl.out.2 : Calls Try.prog 86 #[.slice (some ad) (2 + k0) c] _ _)).mono ?_; rintro e w1 ⟨rfl, hb⟩; have hS1 := hS _ (below_step (And.right (And.right (by assumption))) hb)))
    · have hBW := hS1.2.2
      go_wp2
      have e := HN.out (.inr (by unfold sumOk; rw [hk.out, ← hy0.out, ← hy1.out, hq, Bool.and_false]))
      go_ret3
      rw [e]
      exact ⟨none, 0, rfl, Nat.le_refl _, Kd.C_nil _ _, hBW⟩
    · have hBW := hS1.2.2
      go_wp2
      have e := HN.out (.inr (by unfold sumOk; rw [hk.out, ← hy0.out, ← hy1.out, hq, Bool.and_false]))
      go_ret3
      rw [e]
      exact ⟨none, 0, rfl, Nat.le_refl _, Kd.C_nil _ _, hBW⟩
    · have hBW := hS1.2.2
      have hcb := (hS1.2.2.cell (World.block_lt_of_cell? w _ hc1)).trans hc1
      go_wp2
      go_quiet (fail)
      go_wp2
      have e : firstF b = ((b.take (2 + k0)).drop 2, x1 == 1, 2 + k0 + 2) := by
        have hs : sumOk b = true := by
          unfold sumOk
          rw [hk.out, ← hy0.out, ← hy1.out, hq, Bool.and_true]
          exact decide_eq_true (by omega)
        unfold firstF
        rw [hh.out, hs, Bool.true_and, if_pos rfl, hk.out, ← hx1.out]
      have hm := Kd.C_mid (lo := 2) (hi := 2 + k0) HR.out (by omega) (by omega) HC.out
      have hml : ((b.take (2 + k0)).drop 2).length = k0 := by rw [List.length_drop, List.length_take]; omega
      rw [if_neg (by omega)] at hm
      go_ret3
      rw [e]
      refine ⟨some ⟨ad.block, ad.off + 2, none⟩, k0, ?_, ?_, hm, pw_below_drewN hBW _⟩
      · rw [hml]; rfl
      · rw [hml]; exact Nat.le_refl _
    · have hBW := hS1.2.2
      have hcb := (hS1.2.2.cell (World.block_lt_of_cell? w _ hc1)).trans hc1
      go_wp2
      go_quiet (fail)
      go_wp2
      have e : firstF b = ((b.take (2 + k0)).drop 2, x1 == 1, 2 + k0 + 2) := by
        have hs : sumOk b = true := by
          unfold sumOk
          rw [hk.out, ← hy0.out, ← hy1.out, hq, Bool.and_true]
          exact decide_eq_true (by omega)
        unfold firstF
        rw [hh.out, hs, Bool.true_and, if_pos rfl, hk.out, ← hx1.out]
      have hm := Kd.C_mid (lo := 2) (hi := 2 + k0) HR.out (by omega) (by omega) HC.out
      have hml : ((b.take (2 + k0)).drop 2).length = k0 := by rw [List.length_drop, List.length_take]; omega
      rw [if_neg (by omega)] at hm
      go_ret3
      rw [e]
      refine ⟨some ⟨ad.block, ad.off + 2, none⟩, k0, ?_, ?_, hm, pw_below_drewN hBW _⟩
      · rw [hml]; rfl
      · rw [hml]; exact Nat.le_refl _
end Go.Proofs.Ytnjidfgjldkkcaa.Q
