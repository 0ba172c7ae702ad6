/- Texts of this claim, laid together: QWt1, QWr, QCb, QWd, QRe, Ev, QWf, QWo, QWp1, PlWal, QWq, PlRows, PlStr, PlSort, QRa3. -/
import Derived.Deep.QuietTactic
import Derived.BigQuiet
import Derived.Deep.RegionHeld3
import Derived.Laws.Cover3
import Derived.ChangeKeysEq
import Derived.LoopTactic
import Derived.Lib.Hide
import Derived.Lib.SliceRun
import Derived.WalkSpells
import Derived.Test.YtnjidfgjldkkcaaWWords
import Derived.Laws.Strings
import Derived.WideShapes
import Derived.Lib.LazyBuf
import Derived.Test.YtnjidfgjldkkcaaMStoreRecovers1
-- Written for this seat by a program of its session (xp.py over the kit's printer).
namespace Go.Proofs.Ytnjidfgjldkkcaa.Q
open Go.RowKit Go.Proofs.YtnjidfgjldkkcaaW.PrintWords Go.Proofs.YtnjidfgjldkkcaaW.PrintLast Go.Proofs.YtnjidfgjldkkcaaW.PrintMore
attribute [local go_sem] max2_int min2_int max_two min_two max_three min_three max_four min_four xq_geq xq_leq xq_gtr   -- for this text's walks alone
set_option linter.unusedVariables false
set_option linter.unusedSimpArgs false

/-! ### bagnallref_walSums: function 55 -/
def bagnallref_walSums.l0 : Nat → List Int → Int → Int → List Int → Int → Int → Option (Int × Int)
  | 0, _, _, _, _, _, _ => none
  | k + 1, x0, x4, x5, x8, x9, x10 => if x10 < x9 then (if 0 ≤ x10 then (if x10 < (x8.length : Int) then (bagnallref_walSums.l0 k x0 (wrap64 (x4 + (wrap64 ((wrap64 (rd x8 x10)) + 1)))) (wrap64 (x5 + (wrap64 ((wrap64 ((x0.length : Int) - x10)) * (wrap64 ((wrap64 (rd x8 x10)) + 1)))))) x8 x9 (wrap64 (x10 + 1))) else (none)) else (none)) else (some (Int.tmod x4 251, Int.tmod x5 251))
def bagnallref_walSums.f (k : Nat) (l0 : List Int) : Option (Int × Int) := bagnallref_walSums.l0 k l0 0 0 l0 (l0.length : Int) 0
theorem bagnallref_walSums.mono_l : ∀ k, (∀ y0 y1 y2 y3 y4 y5, LeO (bagnallref_walSums.l0 k y0 y1 y2 y3 y4 y5) (bagnallref_walSums.l0 (k + 1) y0 y1 y2 y3 y4 y5))
  | 0 => fun _ _ _ _ _ _ r h => by simp [bagnallref_walSums.l0] at h
  | k + 1 => by
    have ih0 := bagnallref_walSums.mono_l k
    · intro y0 y1 y2 y3 y4 y5
      unfold bagnallref_walSums.l0
      repeat' first
      | (with_reducible exact ih0 _ _ _ _ _ _)
      | (with_reducible exact LeO.refl _)
      | (with_reducible exact LeO.none _)
      | (with_reducible refine LeO.ite ?_ ?_)
      | (with_reducible refine LeO.bind ?_ (fun _ => ?_))
      | exact ih0 _ _ _ _ _ _
      | exact LeO.none _
      | refine LeO.ite ?_ ?_
      | refine LeO.bind ?_ (fun _ => ?_)
theorem bagnallref_walSums.mono : ∀ a0 k, LeO (bagnallref_walSums.f k a0) (bagnallref_walSums.f (k + 1) a0) := by
  intro a0 k
  have ih0 := bagnallref_walSums.mono_l k
  unfold bagnallref_walSums.f
  repeat' first
      | (with_reducible exact ih0 _ _ _ _ _ _)
      | (with_reducible exact LeO.refl _)
      | (with_reducible exact LeO.none _)
      | (with_reducible refine LeO.ite ?_ ?_)
      | (with_reducible refine LeO.bind ?_ (fun _ => ?_))
      | exact ih0 _ _ _ _ _ _
      | exact LeO.none _
      | refine LeO.ite ?_ ?_
      | refine LeO.bind ?_ (fun _ => ?_)
set_option maxHeartbeats 8000000 in
set_option maxRecDepth 100000 in
theorem bagnallref_walSums.calls (k : Nat) (A0 : Option Addr) (c0 : Nat) (l0 : List Int) (r1 : Int) (r2 : Int) (w : World) (hr0 : Kd.C (Kd.int .u8) w A0 l0.length l0) (hc0 : l0.length ≤ c0) (h : bagnallref_walSums.f k l0 = some (r1, r2)) :
    Calls Try.prog 55 #[.slice A0 l0.length c0] w fun e w' => e = .returned (.tuple #[.int .i64 r1, .int .i64 r2]) ∧ Drawn0 w w' := by
  have HR0 := Aside0.mk hr0
  have HC0 := Aside0.mk hc0
  clear hr0 hc0
  have H : (bagnallref_walSums.l0 k l0 0 0 l0 (l0.length : Int) 0) = some (r1, r2) := h
  clear h
  have H' := Aside0.mk H
  clear H
  go_enter Try.func55, Try.ntmps55
  go_wp2
  go_loopg [4, 5, 10] k (fun kq v4 v5 v10 w' => ∃ (x4_1 : Int) (x5_1 : Int) (x10_1 : Int), v4 = .int .i64 x4_1 ∧ v5 = .int .i64 x5_1 ∧ v10 = .int .i64 x10_1 ∧ Aside0 (bagnallref_walSums.l0 kq l0 x4_1 x5_1 l0 (l0.length : Int) x10_1 = some (r1, r2)) ∧ Aside0 (kq ≤ k) ∧ Drawn0 w w')
  case atStart => exact ⟨(0), (0), (0), (by first | rfl | (simp; done) | (simp [*]; done)), (by first | rfl | (simp; done) | (simp [*]; done)), (by first | rfl | (simp; done) | (simp [*]; done)), H', ⟨Nat.le_refl _⟩, by repeat (first | exact Drawn0.refl _ | apply Drawn0.step)⟩
  case round =>
    clear H'
    obtain ⟨x4_1, x5_1, x10_1, rfl, rfl, rfl, HA, HK1, ⟨m1, rfl⟩⟩ := hrel
    cases gk with
    | zero => exact absurd HA.out (by simp [bagnallref_walSums.l0])
    | succ k1 =>
      have H := HA.out
      clear HA
      simp only [bagnallref_walSums.l0] at H
      by_cases c2 : x10_1 < (l0.length : Int)
      · rw [if_pos c2] at H
        have c2b0 : decide (x10_1 < (l0.length : Int)) = true := decide_eq_true c2
        clear c2
        by_cases c3 : 0 ≤ x10_1
        · rw [if_pos c3] at H
          have c3b0 : decide (0 ≤ x10_1) = true := decide_eq_true c3
          clear c3
          by_cases c4 : x10_1 < (l0.length : Int)
          · rw [if_pos c4] at H
            have c4b0 : decide (x10_1 < (l0.length : Int)) = true := decide_eq_true c4
            clear c4
            have H' := Aside0.mk H
            clear H
            have p101 : 0 ≤ (x10_1 : Int) := of_decide_eq_true (by first | (with_reducible assumption) | assumption)
            have q101 : x10_1 < (l0.length : Int) := of_decide_eq_true (by first | (with_reducible assumption) | assumption)
            obtain ⟨ad101, e101, hx101_0⟩ := Kd.at_int HR0.out x10_1 p101 q101
            cases e101
            replace p101 := eq_true p101
            replace q101 := eq_true q101
            go_wp2
            go_roundg k1
            case measure => have := HK1.out; omega
            case rel => exact ⟨(wrap64 (x4_1 + (wrap64 ((wrap64 (rd l0 x10_1)) + 1)))), (wrap64 (x5_1 + (wrap64 ((wrap64 ((l0.length : Int) - x10_1)) * (wrap64 ((wrap64 (rd l0 x10_1)) + 1)))))), (wrap64 (x10_1 + 1)), (by first | rfl | (simp; done) | (simp [*]; done)), (by first | rfl | (simp; done) | (simp [*]; done)), (by first | rfl | (simp; done) | (simp [*]; done)), H', ⟨by have := HK1.out; omega⟩, by repeat (first | exact Drawn0.refl _ | apply Drawn0.step)⟩
          · rw [if_neg c4] at H
            exact absurd H (by simp)
        · rw [if_neg c3] at H
          exact absurd H (by simp)
      · rw [if_neg c2] at H
        have c2b0 : decide (x10_1 < (l0.length : Int)) = false := decide_eq_false c2
        clear c2
        simp only [Option.some.injEq, Prod.mk.injEq] at H
        obtain ⟨rfl, rfl⟩ := H
        go_wp2
        go_ret2
        exact ⟨by first | rfl | (simp; done) | (simp [*]; done), by repeat (first | exact Drawn0.refl _ | apply Drawn0.step)⟩

/-! ### bagnallref_WalPack: function 28 -/
mutual
def bagnallref_WalPack.j0 : Nat → List (List Int) → Bool → Option (List Int × Int)
  | 0, _, _ => none
  | k + 1, x0, x19 => if x19 = true then (some (([] : List Int), 1)) else (bagnallref_WalPack.l0 k x0 x0 (x0.length : Int) 0)
def bagnallref_WalPack.l0 : Nat → List (List Int) → List (List Int) → Int → Int → Option (List Int × Int)
  | 0, _, _, _, _ => none
  | k + 1, x0, x20, x21, x22 => if x22 < x21 then (if 0 ≤ x22 then (if x22 < (x20.length : Int) then (if ((rd_L4 x20 x22).length : Int) = 0 then (some (([] : List Int), 1)) else (if ((rd_L4 x20 x22).length : Int) > 60 then (some (([] : List Int), 1)) else (bagnallref_WalPack.l0 k x0 x20 x21 (wrap64 (x22 + 1))))) else (none)) else (none)) else (bagnallref_WalPack.l1 k x0 ([] : List Int) x0 (x0.length : Int) 0)
def bagnallref_WalPack.l1 : Nat → List (List Int) → List Int → List (List Int) → Int → Int → Option (List Int × Int)
  | 0, _, _, _, _, _ => none
  | k + 1, x0, x6, x35, x36, x37 => if x37 < x36 then (if 0 ≤ x37 then (if x37 < (x35.length : Int) then ((some (([(((rd_L4 x35 x37).length : Int)) % 256, 0] : List Int) : List Int)).bind fun y104 => (if (wrap64 (x37 + 1)) = (x0.length : Int) then (if 1 < (y104.length : Int) then ((some (y104.set (1 : Int).toNat 1 : List Int)).bind fun y107 => (if y107.length + (rd_L4 x35 x37).length < 140737488355328 then ((some (y107 ++ (rd_L4 x35 x37) : List Int)).bind fun y108 => ((bagnallref_walSums.f k y108).bind fun bt111 => (if x6.length + y108.length < 140737488355328 then ((some (x6 ++ y108 : List Int)).bind fun y113 => ((some (([(bt111.1) % 256, (bt111.2) % 256] : List Int) : List Int)).bind fun y116 => (if y113.length + y116.length < 140737488355328 then (bagnallref_WalPack.l1 k x0 (y113 ++ y116) x35 x36 (wrap64 (x37 + 1))) else (none)))) else (none)))) else (none))) else (none)) else (if y104.length + (rd_L4 x35 x37).length < 140737488355328 then ((some (y104 ++ (rd_L4 x35 x37) : List Int)).bind fun y122 => ((bagnallref_walSums.f k y122).bind fun bt125 => (if x6.length + y122.length < 140737488355328 then ((some (x6 ++ y122 : List Int)).bind fun y127 => ((some (([(bt125.1) % 256, (bt125.2) % 256] : List Int) : List Int)).bind fun y130 => (if y127.length + y130.length < 140737488355328 then (bagnallref_WalPack.l1 k x0 (y127 ++ y130) x35 x36 (wrap64 (x37 + 1))) else (none)))) else (none)))) else (none)))) else (none)) else (none)) else (some (x6, 0))
end
def bagnallref_WalPack.f (k : Nat) (l0 : List (List Int)) : Option (List Int × Int) := if (l0.length : Int) = 0 then (bagnallref_WalPack.j0 k l0 true) else (bagnallref_WalPack.j0 k l0 (decide ((l0.length : Int) > 60)))
theorem bagnallref_WalPack.mono_l : ∀ k, (∀ y0 y1, LeO (bagnallref_WalPack.j0 k y0 y1) (bagnallref_WalPack.j0 (k + 1) y0 y1)) ∧ (∀ y0 y1 y2 y3, LeO (bagnallref_WalPack.l0 k y0 y1 y2 y3) (bagnallref_WalPack.l0 (k + 1) y0 y1 y2 y3)) ∧ (∀ y0 y1 y2 y3 y4, LeO (bagnallref_WalPack.l1 k y0 y1 y2 y3 y4) (bagnallref_WalPack.l1 (k + 1) y0 y1 y2 y3 y4))
  | 0 => ⟨fun _ _ r h => by simp [bagnallref_WalPack.j0] at h, fun _ _ _ _ r h => by simp [bagnallref_WalPack.l0] at h, fun _ _ _ _ _ r h => by simp [bagnallref_WalPack.l1] at h⟩
  | k + 1 => by
    obtain ⟨ih0, ih1, ih2⟩ := bagnallref_WalPack.mono_l k
    refine ⟨?_, ?_, ?_⟩
    · intro y0 y1
      unfold bagnallref_WalPack.j0
      repeat' first
      | (with_reducible exact ih0 _ _)
      | (with_reducible exact ih1 _ _ _ _)
      | (with_reducible exact ih2 _ _ _ _ _)
      | (with_reducible exact bagnallref_walSums.mono _ _)
      | (with_reducible exact LeO.refl _)
      | (with_reducible exact LeO.none _)
      | (with_reducible refine LeO.ite ?_ ?_)
      | (with_reducible refine LeO.bind ?_ (fun _ => ?_))
      | exact ih0 _ _
      | exact ih1 _ _ _ _
      | exact ih2 _ _ _ _ _
      | exact bagnallref_walSums.mono _ _
      | exact LeO.none _
      | refine LeO.ite ?_ ?_
      | refine LeO.bind ?_ (fun _ => ?_)
    · intro y0 y1 y2 y3
      unfold bagnallref_WalPack.l0
      repeat' first
      | (with_reducible exact ih0 _ _)
      | (with_reducible exact ih1 _ _ _ _)
      | (with_reducible exact ih2 _ _ _ _ _)
      | (with_reducible exact bagnallref_walSums.mono _ _)
      | (with_reducible exact LeO.refl _)
      | (with_reducible exact LeO.none _)
      | (with_reducible refine LeO.ite ?_ ?_)
      | (with_reducible refine LeO.bind ?_ (fun _ => ?_))
      | exact ih0 _ _
      | exact ih1 _ _ _ _
      | exact ih2 _ _ _ _ _
      | exact bagnallref_walSums.mono _ _
      | exact LeO.none _
      | refine LeO.ite ?_ ?_
      | refine LeO.bind ?_ (fun _ => ?_)
    · intro y0 y1 y2 y3 y4
      unfold bagnallref_WalPack.l1
      repeat' first
      | (with_reducible exact ih0 _ _)
      | (with_reducible exact ih1 _ _ _ _)
      | (with_reducible exact ih2 _ _ _ _ _)
      | (with_reducible exact bagnallref_walSums.mono _ _)
      | (with_reducible exact LeO.refl _)
      | (with_reducible exact LeO.none _)
      | (with_reducible refine LeO.ite ?_ ?_)
      | (with_reducible refine LeO.bind ?_ (fun _ => ?_))
      | exact ih0 _ _
      | exact ih1 _ _ _ _
      | exact ih2 _ _ _ _ _
      | exact bagnallref_walSums.mono _ _
      | exact LeO.none _
      | refine LeO.ite ?_ ?_
      | refine LeO.bind ?_ (fun _ => ?_)
theorem bagnallref_WalPack.mono : ∀ a0 k, LeO (bagnallref_WalPack.f k a0) (bagnallref_WalPack.f (k + 1) a0) := by
  intro a0 k
  obtain ⟨ih0, ih1, ih2⟩ := bagnallref_WalPack.mono_l k
  unfold bagnallref_WalPack.f
  repeat' first
      | (with_reducible exact ih0 _ _)
      | (with_reducible exact ih1 _ _ _ _)
      | (with_reducible exact ih2 _ _ _ _ _)
      | (with_reducible exact bagnallref_walSums.mono _ _)
      | (with_reducible exact LeO.refl _)
      | (with_reducible exact LeO.none _)
      | (with_reducible refine LeO.ite ?_ ?_)
      | (with_reducible refine LeO.bind ?_ (fun _ => ?_))
      | exact ih0 _ _
      | exact ih1 _ _ _ _
      | exact ih2 _ _ _ _ _
      | exact bagnallref_walSums.mono _ _
      | exact LeO.none _
      | refine LeO.ite ?_ ?_
      | refine LeO.bind ?_ (fun _ => ?_)
set_option maxHeartbeats 8000000 in
set_option maxRecDepth 100000 in
theorem bagnallref_WalPack.calls (k : Nat) (A0 : Option Addr) (c0 : Nat) (l0 : List (List Int)) (r1 : List Int) (r2 : Int) (w : World) (hr0 : Kd.C (Kd.slice 5 (Kd.int .u8)) w A0 l0.length l0) (hc0 : l0.length ≤ c0) (h : bagnallref_WalPack.f k l0 = some (r1, r2)) :
    Calls Try.prog 28 #[.slice A0 l0.length c0] w fun e w' => ∃ v0_ : Value, e = .returned (.tuple #[v0_, .int .i64 r2]) ∧ Kd.R (Kd.int .u8) 5 w' w.heap.size (fun _ => True) v0_ r1 ∧ Below w.heap.size w w' := by
  have HR0 := Aside0.mk hr0
  have HC0 := Aside0.mk hc0
  clear hr0 hc0
  have HB := Aside0.mk (Below.refl w.heap.size w)
  have H : (if (l0.length : Int) = 0 then (bagnallref_WalPack.j0 k l0 true) else (bagnallref_WalPack.j0 k l0 (decide ((l0.length : Int) > 60)))) = some (r1, r2) := h
  clear h
  have HC2 := Aside0.mk H
  clear H
  go_enter Try.func28, Try.ntmps28
  go_upto_region 1 with (fail)
  go_cut [19] (fun v19 wc => ∃ (kq : Nat) (x19_1 : Bool), v19 = .bool x19_1 ∧ Aside0 (bagnallref_WalPack.j0 kq l0 x19_1 = some (r1, r2)) ∧ Aside0 (kq ≤ k) ∧ Aside0 (Below w.heap.size w wc))
  case first =>
    have H := HC2.out
    clear HC2
    by_cases c3 : (l0.length : Int) = 0
    · rw [if_pos c3] at H
      have c3b0 : ((l0.length : Int) == 0) = true := beq_iff_eq.mpr c3
      have c3b1 : ((l0.length : Int) != 0) = false := bne_eq_false_iff_eq.mpr c3
      clear c3
      (first | rw [c3b0] | (simp only [i64_w, i32_w]; rw [c3b0]) | skip)
      have H' := Aside0.mk H
      clear H
      go_wp2
      go_meet
      case rel => exact ⟨_, (true), (by first | rfl | (simp; done) | (simp [*]; done)), H', ⟨by first | omega | exact Nat.le_refl _⟩, ⟨by repeat (first | (with_reducible first | exact HB.out | apply below_alloc | apply pw_below_drewN | apply below_drew1) | exact HB.out)⟩⟩
    · rw [if_neg c3] at H
      have c3b0 : ((l0.length : Int) == 0) = false := beq_eq_false_iff_ne.mpr c3
      have c3b1 : ((l0.length : Int) != 0) = true := bne_iff_ne.mpr c3
      have c3b2 : ¬ (l0 = []) := fun h_ => c3 (by rw [h_]; rfl)
      (first | rw [c3b0] | (simp only [i64_w, i32_w]; rw [c3b0]) | skip)
      have H' := Aside0.mk H
      clear H
      go_wp2
      go_meet
      case rel => exact ⟨_, (decide ((l0.length : Int) > 60)), (by first | rfl | (simp; done) | (simp [*]; done)), H', ⟨by first | omega | exact Nat.le_refl _⟩, ⟨by repeat (first | (with_reducible first | exact HB.out | apply below_alloc | apply pw_below_drewN | apply below_drew1) | exact HB.out)⟩⟩
  case rest =>
    clear HC2
    try clear c2
    try clear p2
    try clear c3
    try clear c3b0
    try clear c3b1
    try clear c3b2
    obtain ⟨kq, x19_1, rfl, HA, HJ1, HB⟩ := hcut
    cases kq with
    | zero => exact absurd HA.out (by simp [bagnallref_WalPack.j0])
    | succ kj1 =>
      have H := HA.out
      clear HA
      simp only [bagnallref_WalPack.j0] at H
      by_cases c4 : x19_1 = true
      · subst c4
        have H1 : (some (([] : List Int), 1)) = some (r1, r2) := by rw [if_pos rfl] at H; exact H
        clear H
        have H := H1
        clear H1
        simp only [Option.some.injEq, Prod.mk.injEq] at H
        obtain ⟨rfl, rfl⟩ := H
        go_wp2
        go_ret2
        exact ⟨_, by first | rfl | (simp [errW_none, errW_some] <;> rfl) | (simp [*, errW_none, errW_some] <;> rfl), by first | exact Kd.R_nil _ _ _ _ _ | exact Kd.N_nil _ _ _ _ _ | exact Kd.V_nil _ _ _ _ _ | exact Kd.Q_nil _ _ _ _ _ | exact Kd.S_nil _ _ _ _ _, by repeat (first | (with_reducible first | exact HB.out | apply below_alloc | apply pw_below_drewN | apply below_drew1) | exact HB.out)⟩
      · replace c4 := Bool.eq_false_iff.mpr c4
        subst c4
        have H1 : (bagnallref_WalPack.l0 kj1 l0 l0 (l0.length : Int) 0) = some (r1, r2) := by rw [if_neg (show ¬ (false = true) by decide)] at H; exact H
        clear H
        have H := H1
        clear H1
        have H' := Aside0.mk H
        clear H
        go_wp2
        go_loopg [22] kj1 (fun kq v22 w' => ∃ (x22_2 : Int), v22 = .int .i64 x22_2 ∧ Aside0 (bagnallref_WalPack.l0 kq l0 l0 (l0.length : Int) x22_2 = some (r1, r2)) ∧ Aside0 (kq ≤ kj1) ∧ Aside0 (Below w.heap.size w w'))
        case atStart => exact ⟨(0), (by first | rfl | (simp; done) | (simp [*]; done)), H', ⟨Nat.le_refl _⟩, ⟨by repeat (first | (with_reducible first | exact HB.out | apply below_alloc | apply pw_below_drewN | apply below_drew1) | exact HB.out)⟩⟩
        case round =>
          clear H'
          try clear c2
          try clear p2
          try clear c3
          try clear c3b0
          try clear c3b1
          try clear c3b2
          try clear c4
          try clear p2
          obtain ⟨x22_2, rfl, HA, HK2, HB⟩ := hrel
          cases gk with
          | zero => exact absurd HA.out (by simp [bagnallref_WalPack.l0])
          | succ k2 =>
            have H := HA.out
            clear HA
            simp only [bagnallref_WalPack.l0] at H
            by_cases c5 : x22_2 < (l0.length : Int)
            · rw [if_pos c5] at H
              have c5b0 : decide (x22_2 < (l0.length : Int)) = true := decide_eq_true c5
              clear c5
              by_cases c6 : 0 ≤ x22_2
              · rw [if_pos c6] at H
                have c6b0 : decide (0 ≤ x22_2) = true := decide_eq_true c6
                clear c6
                by_cases c7 : x22_2 < (l0.length : Int)
                · rw [if_pos c7] at H
                  have c7b0 : decide (x22_2 < (l0.length : Int)) = true := decide_eq_true c7
                  clear c7
                  by_cases c8 : ((rd_L4 l0 x22_2).length : Int) = 0
                  · rw [if_pos c8] at H
                    have c8b0 : (((rd_L4 l0 x22_2).length : Int) == 0) = true := beq_iff_eq.mpr c8
                    have c8b1 : (((rd_L4 l0 x22_2).length : Int) != 0) = false := bne_eq_false_iff_eq.mpr c8
                    clear c8
                    simp only [Option.some.injEq, Prod.mk.injEq] at H
                    obtain ⟨rfl, rfl⟩ := H
                    have p102 : 0 ≤ (x22_2 : Int) := of_decide_eq_true (by first | (with_reducible assumption) | assumption)
                    have q102 : x22_2 < (l0.length : Int) := of_decide_eq_true (by first | (with_reducible assumption) | assumption)
                    obtain ⟨ad102, A102_0, c102_0, e102, hx102_0, hl102_0, hi102_0⟩ := at_L4 HR0.out x22_2 p102 q102
                    cases e102
                    try replace hx102_0 := (HB.out.cell (World.block_lt_of_cell? w _ hx102_0)).trans hx102_0
                    have HR102_0 := Aside0.mk hi102_0
                    have HC102_0 := Aside0.mk hl102_0
                    clear hi102_0 hl102_0
                    replace p102 := eq_true p102
                    replace q102 := eq_true q102
                    go_wp2
                    go_ret2
                    exact ⟨_, by first | rfl | (simp [errW_none, errW_some] <;> rfl) | (simp [*, errW_none, errW_some] <;> rfl), by first | exact Kd.R_nil _ _ _ _ _ | exact Kd.N_nil _ _ _ _ _ | exact Kd.V_nil _ _ _ _ _ | exact Kd.Q_nil _ _ _ _ _ | exact Kd.S_nil _ _ _ _ _, by repeat (first | (with_reducible first | exact HB.out | apply below_alloc | apply pw_below_drewN | apply below_drew1) | exact HB.out)⟩
                  · rw [if_neg c8] at H
                    have c8b0 : (((rd_L4 l0 x22_2).length : Int) == 0) = false := beq_eq_false_iff_ne.mpr c8
                    have c8b1 : (((rd_L4 l0 x22_2).length : Int) != 0) = true := bne_iff_ne.mpr c8
                    have c8b2 : ¬ ((rd_L4 l0 x22_2) = []) := fun h_ => c8 (by rw [h_]; rfl)
                    by_cases c9 : ((rd_L4 l0 x22_2).length : Int) > 60
                    · rw [if_pos c9] at H
                      have c9b0 : decide (60 < ((rd_L4 l0 x22_2).length : Int)) = true := decide_eq_true c9
                      have c9b1 : decide (60 < (rd_L4 l0 x22_2).length) = true := decide_eq_true (by omega)
                      clear c9
                      simp only [Option.some.injEq, Prod.mk.injEq] at H
                      obtain ⟨rfl, rfl⟩ := H
                      have p102 : 0 ≤ (x22_2 : Int) := of_decide_eq_true (by first | (with_reducible assumption) | assumption)
                      have q102 : x22_2 < (l0.length : Int) := of_decide_eq_true (by first | (with_reducible assumption) | assumption)
                      obtain ⟨ad102, A102_0, c102_0, e102, hx102_0, hl102_0, hi102_0⟩ := at_L4 HR0.out x22_2 p102 q102
                      cases e102
                      try replace hx102_0 := (HB.out.cell (World.block_lt_of_cell? w _ hx102_0)).trans hx102_0
                      have HR102_0 := Aside0.mk hi102_0
                      have HC102_0 := Aside0.mk hl102_0
                      clear hi102_0 hl102_0
                      replace p102 := eq_true p102
                      replace q102 := eq_true q102
                      go_wp2
                      go_ret2
                      exact ⟨_, by first | rfl | (simp [errW_none, errW_some] <;> rfl) | (simp [*, errW_none, errW_some] <;> rfl), by first | exact Kd.R_nil _ _ _ _ _ | exact Kd.N_nil _ _ _ _ _ | exact Kd.V_nil _ _ _ _ _ | exact Kd.Q_nil _ _ _ _ _ | exact Kd.S_nil _ _ _ _ _, by repeat (first | (with_reducible first | exact HB.out | apply below_alloc | apply pw_below_drewN | apply below_drew1) | exact HB.out)⟩
                    · rw [if_neg c9] at H
                      have c9b0 : decide (60 < ((rd_L4 l0 x22_2).length : Int)) = false := decide_eq_false c9
                      have c9b1 : decide (60 < (rd_L4 l0 x22_2).length) = false := decide_eq_false (by omega)
                      clear c9
                      have H' := Aside0.mk H
                      clear H
                      have p102 : 0 ≤ (x22_2 : Int) := of_decide_eq_true (by first | (with_reducible assumption) | assumption)
                      have q102 : x22_2 < (l0.length : Int) := of_decide_eq_true (by first | (with_reducible assumption) | assumption)
                      obtain ⟨ad102, A102_0, c102_0, e102, hx102_0, hl102_0, hi102_0⟩ := at_L4 HR0.out x22_2 p102 q102
                      cases e102
                      try replace hx102_0 := (HB.out.cell (World.block_lt_of_cell? w _ hx102_0)).trans hx102_0
                      have HR102_0 := Aside0.mk hi102_0
                      have HC102_0 := Aside0.mk hl102_0
                      clear hi102_0 hl102_0
                      replace p102 := eq_true p102
                      replace q102 := eq_true q102
                      go_wp2
                      go_roundg k2
                      case measure => have := HJ1.out; have := HK2.out; omega
                      case rel => exact ⟨(wrap64 (x22_2 + 1)), (by first | rfl | (simp; done) | (simp [*]; done)), H', ⟨by have := HJ1.out; have := HK2.out; omega⟩, ⟨by repeat (first | (with_reducible first | exact HB.out | apply below_alloc | apply pw_below_drewN | apply below_drew1) | exact HB.out)⟩⟩
                · rw [if_neg c7] at H
                  exact absurd H (by simp)
              · rw [if_neg c6] at H
                exact absurd H (by simp)
            · rw [if_neg c5] at H
              have c5b0 : decide (x22_2 < (l0.length : Int)) = false := decide_eq_false c5
              clear c5
              have H' := Aside0.mk H
              clear H
              go_wp2
              go_loopg [6, 37] k2 (fun kq v6 v37 w' => ∃ (x6_3 : List Int) (x37_3 : Int), v37 = .int .i64 x37_3 ∧ Aside0 (bagnallref_WalPack.l1 kq l0 x6_3 l0 (l0.length : Int) x37_3 = some (r1, r2)) ∧ Aside0 (kq ≤ k2) ∧ Aside0 (Kd.R (Kd.int .u8) 5 w' w.heap.size (fun _ => True) v6 x6_3) ∧ Aside0 (Below w.heap.size w w'))
              case atStart => exact ⟨(([] : List Int)), (0), (by first | rfl | (simp; done) | (simp [*]; done)), H', ⟨Nat.le_refl _⟩, ⟨by first | exact Kd.R_nil _ _ _ _ _ | exact Kd.N_nil _ _ _ _ _ | exact Kd.V_nil _ _ _ _ _ | exact Kd.Q_nil _ _ _ _ _ | exact Kd.S_nil _ _ _ _ _⟩, ⟨by repeat (first | (with_reducible first | exact HB.out | apply below_alloc | apply pw_below_drewN | apply below_drew1) | exact HB.out)⟩⟩
              case round =>
                clear H'
                try clear c1
                try clear p1
                try clear q1
                try clear hx1
                try clear c2
                try clear p2
                try clear c3
                try clear c3b0
                try clear c3b1
                try clear c3b2
                try clear c4
                try clear c5
                try clear c5b0
                try clear c6
                try clear c6b0
                try clear p6
                try clear c7
                try clear c7b0
                try clear c8
                try clear c8b0
                try clear c8b1
                try clear c8b2
                try clear c9
                try clear c9b0
                try clear c9b1
                try clear hx102_0
                try clear p102
                try clear p2
                try clear q102
                obtain ⟨x6_3, x37_3, rfl, HA, HK3, HO_6, HB⟩ := hrel
                cases gk with
                | zero => exact absurd HA.out (by simp [bagnallref_WalPack.l1])
                | succ k3 =>
                  have H := HA.out
                  clear HA
                  simp only [bagnallref_WalPack.l1] at H
                  by_cases c10 : x37_3 < (l0.length : Int)
                  · rw [if_pos c10] at H
                    have c10b0 : decide (x37_3 < (l0.length : Int)) = true := decide_eq_true c10
                    clear c10
                    by_cases c11 : 0 ≤ x37_3
                    · rw [if_pos c11] at H
                      have c11b0 : decide (0 ≤ x37_3) = true := decide_eq_true c11
                      clear c11
                      by_cases c12 : x37_3 < (l0.length : Int)
                      · rw [if_pos c12] at H
                        have c12b0 : decide (x37_3 < (l0.length : Int)) = true := decide_eq_true c12
                        clear c12
                        obtain ⟨y104, hy104⟩ : ∃ y_ : List Int, y_ = (([(((rd_L4 l0 x37_3).length : Int)) % 256, 0] : List Int)) := ⟨_, rfl⟩
                        replace H : (if (wrap64 (x37_3 + 1)) = (l0.length : Int) then (if 1 < (y104.length : Int) then ((some (y104.set (1 : Int).toNat 1 : List Int)).bind fun y107 => (if y107.length + (rd_L4 l0 x37_3).length < 140737488355328 then ((some (y107 ++ (rd_L4 l0 x37_3) : List Int)).bind fun y108 => ((bagnallref_walSums.f k3 y108).bind fun bt111 => (if x6_3.length + y108.length < 140737488355328 then ((some (x6_3 ++ y108 : List Int)).bind fun y113 => ((some (([(bt111.1) % 256, (bt111.2) % 256] : List Int) : List Int)).bind fun y116 => (if y113.length + y116.length < 140737488355328 then (bagnallref_WalPack.l1 k3 l0 (y113 ++ y116) l0 (l0.length : Int) (wrap64 (x37_3 + 1))) else (none)))) else (none)))) else (none))) else (none)) else (if y104.length + (rd_L4 l0 x37_3).length < 140737488355328 then ((some (y104 ++ (rd_L4 l0 x37_3) : List Int)).bind fun y122 => ((bagnallref_walSums.f k3 y122).bind fun bt125 => (if x6_3.length + y122.length < 140737488355328 then ((some (x6_3 ++ y122 : List Int)).bind fun y127 => ((some (([(bt125.1) % 256, (bt125.2) % 256] : List Int) : List Int)).bind fun y130 => (if y127.length + y130.length < 140737488355328 then (bagnallref_WalPack.l1 k3 l0 (y127 ++ y130) l0 (l0.length : Int) (wrap64 (x37_3 + 1))) else (none)))) else (none)))) else (none))) = some (r1, r2) := by first | (rw [hy104]; with_reducible exact H) | (have H2_ := (Option.bind_some _ _).symm.trans H; rw [hy104]; with_reducible exact H2_) | (have H2_ := (Option.bind_some _ _).symm.trans H; with_reducible exact H2_) | with_reducible exact H | (rw [hy104]; exact H) | exact H
                        have Ny104 := Aside0.mk hy104
                        clear hy104
                        by_cases c13 : (wrap64 (x37_3 + 1)) = (l0.length : Int)
                        · rw [if_pos c13] at H
                          have c13b0 : ((wrap64 (x37_3 + 1)) == (l0.length : Int)) = true := beq_iff_eq.mpr c13
                          have c13b1 : ((wrap64 (x37_3 + 1)) != (l0.length : Int)) = false := bne_eq_false_iff_eq.mpr c13
                          clear c13
                          by_cases c14 : 1 < (y104.length : Int)
                          · rw [if_pos c14] at H
                            have c14b0 : decide (1 < (y104.length : Int)) = true := decide_eq_true c14
                            have c14b1 : decide (1 < y104.length) = true := decide_eq_true (by omega)
                            clear c14
                            obtain ⟨y107, hy107⟩ : ∃ y_ : List Int, y_ = (y104.set (1 : Int).toNat 1) := ⟨_, rfl⟩
                            replace H : (if y107.length + (rd_L4 l0 x37_3).length < 140737488355328 then ((some (y107 ++ (rd_L4 l0 x37_3) : List Int)).bind fun y108 => ((bagnallref_walSums.f k3 y108).bind fun bt111 => (if x6_3.length + y108.length < 140737488355328 then ((some (x6_3 ++ y108 : List Int)).bind fun y113 => ((some (([(bt111.1) % 256, (bt111.2) % 256] : List Int) : List Int)).bind fun y116 => (if y113.length + y116.length < 140737488355328 then (bagnallref_WalPack.l1 k3 l0 (y113 ++ y116) l0 (l0.length : Int) (wrap64 (x37_3 + 1))) else (none)))) else (none)))) else (none)) = some (r1, r2) := by first | (rw [hy107]; with_reducible exact H) | (have H2_ := (Option.bind_some _ _).symm.trans H; rw [hy107]; with_reducible exact H2_) | (have H2_ := (Option.bind_some _ _).symm.trans H; with_reducible exact H2_) | with_reducible exact H | (rw [hy107]; exact H) | exact H
                            have Ny107 := Aside0.mk hy107
                            clear hy107
                            by_cases c16 : y107.length + (rd_L4 l0 x37_3).length < 140737488355328
                            · rw [if_pos c16] at H
                              have LMc16 := Aside0.mk c16
                              clear c16
                              obtain ⟨y108, hy108⟩ : ∃ y_ : List Int, y_ = (y107 ++ (rd_L4 l0 x37_3)) := ⟨_, rfl⟩
                              replace H : ((bagnallref_walSums.f k3 y108).bind fun bt111 => (if x6_3.length + y108.length < 140737488355328 then ((some (x6_3 ++ y108 : List Int)).bind fun y113 => ((some (([(bt111.1) % 256, (bt111.2) % 256] : List Int) : List Int)).bind fun y116 => (if y113.length + y116.length < 140737488355328 then (bagnallref_WalPack.l1 k3 l0 (y113 ++ y116) l0 (l0.length : Int) (wrap64 (x37_3 + 1))) else (none)))) else (none))) = some (r1, r2) := by first | (rw [hy108]; with_reducible exact H) | (have H2_ := (Option.bind_some _ _).symm.trans H; rw [hy108]; with_reducible exact H2_) | (have H2_ := (Option.bind_some _ _).symm.trans H; with_reducible exact H2_) | with_reducible exact H | (rw [hy108]; exact H) | exact H
                              have Ny108 := Aside0.mk hy108
                              clear hy108
                              replace H := Option.bind_eq_some_iff.mp H
                              obtain ⟨⟨t111, t112⟩, A170, H⟩ := H
                              replace H : (if x6_3.length + y108.length < 140737488355328 then ((some (x6_3 ++ y108 : List Int)).bind fun y113 => ((some (([(t111) % 256, (t112) % 256] : List Int) : List Int)).bind fun y116 => (if y113.length + y116.length < 140737488355328 then (bagnallref_WalPack.l1 k3 l0 (y113 ++ y116) l0 (l0.length : Int) (wrap64 (x37_3 + 1))) else (none)))) else (none)) = some (r1, r2) := H
                              have A17 := Aside0.mk A170
                              clear A170
                              by_cases c18 : x6_3.length + y108.length < 140737488355328
                              · rw [if_pos c18] at H
                                have LMc18 := Aside0.mk c18
                                clear c18
                                obtain ⟨y113, hy113⟩ : ∃ y_ : List Int, y_ = (x6_3 ++ y108) := ⟨_, rfl⟩
                                replace H : ((some (([(t111) % 256, (t112) % 256] : List Int) : List Int)).bind fun y116 => (if y113.length + y116.length < 140737488355328 then (bagnallref_WalPack.l1 k3 l0 (y113 ++ y116) l0 (l0.length : Int) (wrap64 (x37_3 + 1))) else (none))) = some (r1, r2) := by first | (rw [hy113]; with_reducible exact H) | (have H2_ := (Option.bind_some _ _).symm.trans H; rw [hy113]; with_reducible exact H2_) | (have H2_ := (Option.bind_some _ _).symm.trans H; with_reducible exact H2_) | with_reducible exact H | (rw [hy113]; exact H) | exact H
                                have Ny113 := Aside0.mk hy113
                                clear hy113
                                obtain ⟨y116, hy116⟩ : ∃ y_ : List Int, y_ = (([(t111) % 256, (t112) % 256] : List Int)) := ⟨_, rfl⟩
                                replace H : (if y113.length + y116.length < 140737488355328 then (bagnallref_WalPack.l1 k3 l0 (y113 ++ y116) l0 (l0.length : Int) (wrap64 (x37_3 + 1))) else (none)) = some (r1, r2) := by first | (rw [hy116]; with_reducible exact H) | (have H2_ := (Option.bind_some _ _).symm.trans H; rw [hy116]; with_reducible exact H2_) | (have H2_ := (Option.bind_some _ _).symm.trans H; with_reducible exact H2_) | with_reducible exact H | (rw [hy116]; exact H) | exact H
                                have Ny116 := Aside0.mk hy116
                                clear hy116
                                by_cases c19 : y113.length + y116.length < 140737488355328
                                · rw [if_pos c19] at H
                                  have LMc19 := Aside0.mk c19
                                  clear c19
                                  obtain ⟨y119, hy119⟩ : ∃ y_ : List Int, y_ = (y113 ++ y116) := ⟨_, rfl⟩
                                  replace H : (bagnallref_WalPack.l1 k3 l0 y119 l0 (l0.length : Int) (wrap64 (x37_3 + 1))) = some (r1, r2) := by first | (rw [hy119]; with_reducible exact H) | (have H2_ := (Option.bind_some _ _).symm.trans H; rw [hy119]; with_reducible exact H2_) | (have H2_ := (Option.bind_some _ _).symm.trans H; with_reducible exact H2_) | with_reducible exact H | (rw [hy119]; exact H) | exact H
                                  have Ny119 := Aside0.mk hy119
                                  clear hy119
                                  have H' := Aside0.mk H
                                  clear H
                                  have p103 : 0 ≤ (x37_3 : Int) := of_decide_eq_true (by first | (with_reducible assumption) | assumption)
                                  have q103 : x37_3 < (l0.length : Int) := of_decide_eq_true (by first | (with_reducible assumption) | assumption)
                                  obtain ⟨ad103, A103_0, c103_0, e103, hx103_0, hl103_0, hi103_0⟩ := at_L4 HR0.out x37_3 p103 q103
                                  cases e103
                                  try replace hx103_0 := (HB.out.cell (World.block_lt_of_cell? w _ hx103_0)).trans hx103_0
                                  have HR103_0 := Aside0.mk hi103_0
                                  have HC103_0 := Aside0.mk hl103_0
                                  clear hi103_0 hl103_0
                                  replace p103 := eq_true p103
                                  replace q103 := eq_true q103
                                  go_wp2_with (first | ((with_reducible refine gate_dst (N := 45) rfl ?_); (try (refine gate_guard (by rfl) ?_; dsimp only)); refine Kd.R_lit (Kd.int .u8) _ 5 ?hg (N := 45) ?hd (xs := ([(((rd_L4 l0 x37_3).length : Int)) % 256, 0] : List Int)) (inner := [.int .u8 ((((rd_L4 l0 x37_3).length : Int)) % 256), .int .u8 0]) (ok := fun _ => True) (okp := fun _ => True) ?hr ?hp (fun _ hk => hk) trivial (Below.refl _ _) (Nat.le_refl _) (by simp) ?_; (case hd => rfl); (case hg => rfl); (case hr => first | (go_simp; done) | (go_simp; rfl)); (case hp => exact (Reps.one (show Kd.M (Kd.int .u8) _ _ _ ((((rd_L4 l0 x37_3).length : Int)) % 256) [.int .u8 ((((rd_L4 l0 x37_3).length : Int)) % 256)] from rfl) (Reps.one (show Kd.M (Kd.int .u8) _ _ _ 0 [.int .u8 0] from rfl) (Reps.none _ _)))); intro v105 w20 ho21 hb hg_ hnew_; clear hg_ hnew_; (first | rw [← Ny104.out] at ho21 | (simp only [Int.reduceToNat] at ho21; rw [← Ny104.out] at ho21)); have n0_ := Aside0.mk (Kd.R_elder' (by (with_reducible repeat (first | apply Kd.R_alloc | apply Kd.R_drewN | apply Kd.R_drew)); exact HO_6.out) (Kd.R_base ho21) hb); have n1_ := Aside0.mk (Kd.R_lower (Kd.R_new' ho21 (Kd.R_lt (by (with_reducible repeat (first | apply Kd.R_alloc | apply Kd.R_drewN | apply Kd.R_drew)); exact HO_6.out))) (below_size (by repeat (first | (with_reducible first | exact HB.out | apply below_alloc | apply pw_below_drewN | apply below_drew1) | exact HB.out)))); have n2_ := Aside0.mk (below_step (by repeat (first | (with_reducible first | exact HB.out | apply below_alloc | apply pw_below_drewN | apply below_drew1) | exact HB.out)) hb); clear HO_6; clear HB; have HO_6 := n0_; have HO106 := n1_; have HB := n2_; clear n0_ n1_ n2_; clear hb ho21; have p15 : 0 ≤ (1 : Int) := (by omega); have q15 : (1 : Int) < ((y104.length : Int) : Int) := of_decide_eq_true (by first | (with_reducible assumption) | assumption); have qi15 : (1 < y104.length) = True := eq_true (by omega); obtain ⟨go15, co15, eo15, gb15, gl15, cl15, HG15⟩ := Kd.R_form HO106.out (by omega); (first | cases eo15 | (injection eo15 with ea_ en_ ec_; (first | subst ea_ | (injection ea_ with ea_; subst ea_)); subst ec_; clear en_)); have GB15 := Aside0.mk gb15; have GG15 := Aside0.mk HG15; clear gb15 gl15 HG15; obtain ⟨hx15_0, hf15_0⟩ := Kd.R_celln 0 HO106.out (1 : Int) p15 q15; (try rw [show ((1 : Int)).toNat = 1 from rfl] at hx15_0); (try simp only [Nat.reduceMul, Nat.zero_mul, Nat.zero_add, Nat.reduceAdd] at hx15_0); (try rw [show ((1 : Int)).toNat = 1 from rfl] at hf15_0); (try simp only [Nat.reduceMul, Nat.zero_mul, Nat.zero_add, Nat.reduceAdd] at hf15_0); replace p15 := eq_true p15; replace q15 := eq_true q15; have n_ := Aside0.mk (Kd.R_mono (ok' := (fun k_ => some k_ ≠ (u6 : Value).ownBlock)) HO106.out (fun k_ hk => hk.2)); clear HO106; have HO106 := n_; clear n_; obtain ⟨hy22_, hz22_⟩ := Kd.R_celln 0 HO106.out (1 : Int) (by omega) (of_decide_eq_true (by first | (with_reducible assumption) | assumption)); (try simp only [Int.reduceToNat, Int.toNat_zero, Int.toNat_ofNat, Nat.reduceMul, Nat.zero_mul, Nat.zero_add] at hy22_ hz22_); (try rw [show ((1 : Int)).toNat = 1 from rfl] at hy22_); (try rw [show ((1 : Int)).toNat = 1 from rfl] at hz22_); have HP22 := Kd.R_putg HO106.out (1 : Int) 1) | ((with_reducible refine gate_store (t := 5) (p := 52) rfl ?_); refine store_event (t := 5) (p := 52) (v := ?vo_w23) (w1 := (w20.setCell ⟨go15, (1 : Int).toNat, none⟩ (.int .u8 1))) ?hg ?ho ?hn ?hr ?_; (case ho => rfl); (case hg => rfl); (case hn => rfl); (case hr => first | (go_simp; done) | (go_simp; rfl)); intro w23 hw; have hg : w20.grownBy w23 (some go15) := (by rw [hw]; exact HP22.2); have hp_ : Kd.R (Kd.int .u8) 5 w23 w.heap.size (fun k_ => some k_ ≠ (u6 : Value).ownBlock) (.slice (some ⟨go15, 0, none⟩) y104.length co15) y107 := (by rw [hw, Ny107.out]; exact HP22.1); clear HP22; have n0_ := Aside0.mk (Kd.R_after (v := (.slice (some ⟨go15, 0, none⟩) y104.length co15)) (v1 := (.slice (some ⟨go15, 0, none⟩) y104.length co15)) (ok := (fun _ => True)) (by (with_reducible repeat (first | apply Kd.R_alloc | apply Kd.R_drewN | apply Kd.R_drew)); exact HO_6.out) hg (.inl rfl)); have n1_ := Aside0.mk (hp_); have n2_ := Aside0.mk ((by rw [hw]; exact below_set (HB.out) GB15.out : Below w.heap.size w w23)); clear HO_6; clear HO106; clear HB; have HO_6 := n0_; have HO106 := n1_; have HB := n2_; clear n0_ n1_ n2_; clear hg hw hp_) | ((with_reducible refine gate_builtin (b := .append) (xs := #[.tmp 53, .tmp 54]) rfl ?_); (try (refine gate_guard (by rfl) ?_; dsimp only)); at_builtin; refine Kd.R_append_rows (Kd.int .u8) (w0 := w) w.heap.size rfl (.tmp 53) (.tmp 54) 36 5 (.int .u8 0) 1 rfl Try.underlying36 info5 rfl (by decide) (by omega) (.slice (some ⟨go15, 0, none⟩) y104.length co15) y107 (rd_L4 l0 x37_3) _ _ _ (fun k_ => some k_ ≠ (u6 : Value).ownBlock) (fun _ => False) rfl rfl ?aO ?aR (fun _ _ h => h) (fun _ h => h.elim) ?aF ?aB ?aS ?aL ?_; (case aR => repeat (first | exact (Kd.C_below HR103_0.out HB.out) | (with_reducible refine Kd.C_alloc ?_ _) | (with_reducible refine Kd.C_drewN ?_ _) | (with_reducible refine Kd.C_drew ?_))); (case aB => exact (by repeat (first | (with_reducible first | exact HB.out | apply below_alloc | apply pw_below_drewN | apply below_drew1) | exact HB.out))); (case aF => exact (fun k_ hk => Kd.fresh' (Kd.R_lt (by (with_reducible repeat (first | apply Kd.R_alloc | apply Kd.R_drewN | apply Kd.R_drew)); exact HO_6.out)) k_ hk)); (case aO => exact (by (with_reducible repeat (first | apply Kd.R_alloc | apply Kd.R_drewN | apply Kd.R_drew)); exact HO106.out)); (case aS => exact (below_size (by repeat (first | (with_reducible first | exact HB.out | apply below_alloc | apply pw_below_drewN | apply below_drew1) | exact HB.out)))); (case aL => have := LMc16.out; omega); intro v109 w24 ho hb hg hat; rw [← Ny108.out] at ho; have n0_ := Aside0.mk (Kd.R_after (ok := (fun _ => True)) (by (with_reducible repeat (first | apply Kd.R_alloc | apply Kd.R_drewN | apply Kd.R_drew)); exact HO_6.out) hg hat); have n1_ := Aside0.mk (hb); have n2_ := Aside0.mk (ho); clear HO_6; clear HB; clear HO106; have HO_6 := n0_; have HB := n1_; have HO110 := n2_; clear n0_ n1_ n2_; clear ho hb hg hat; obtain ⟨Ao25, co25, eo25⟩ := Kd.R_slice HO110.out; subst eo25) | ((with_reducible refine gate_callee (f := 55) rfl ?_); refine goesL_ (some 58) rfl rfl Try.func55 (by kernel_rfl) rfl #[.slice Ao25 y108.length co25] rfl (by (try simp only [List.map_toArray, List.map_cons, List.map_nil]); first | done | rfl | (simp only [List.length_drop, List.length_take]; rfl)) ?_; (with_reducible refine (bagnallref_walSums.calls k3 _ _ y108 t111 t112 _ ?side1 ?side2 A17.out).mono ?_); (case side1 => repeat (first | exact (Kd.R_reads' HO110.out).2.2 | (with_reducible refine Kd.C_alloc ?_ _) | (with_reducible refine Kd.C_drewN ?_ _) | (with_reducible refine Kd.C_drew ?_))); (case side2 => exact (Kd.R_reads' HO110.out).2.1); rintro e w' ⟨rfl, ⟨nd, rfl⟩⟩; refine ⟨_, rfl, ?_⟩) | ((with_reducible refine gate_builtin (b := .append) (xs := #[.tmp 61, .tmp 62]) rfl ?_); (try (refine gate_guard (by rfl) ?_; dsimp only)); at_builtin; refine Kd.R_append_rows (Kd.int .u8) (w0 := w) w.heap.size rfl (.tmp 61) (.tmp 62) 36 5 (.int .u8 0) 1 rfl Try.underlying36 info5 rfl (by decide) (by omega) u6 x6_3 y108 _ _ _ (fun k_ => some k_ ≠ (.slice Ao25 y108.length co25 : Value).ownBlock) (fun _ => False) rfl rfl ?aO ?aR (fun _ _ h => h) (fun _ h => h.elim) ?aF ?aB ?aS ?aL ?_; (case aR => repeat (first | exact (Kd.R_reads' HO110.out).2.2 | (with_reducible refine Kd.C_alloc ?_ _) | (with_reducible refine Kd.C_drewN ?_ _) | (with_reducible refine Kd.C_drew ?_))); (case aB => exact (by repeat (first | (with_reducible first | exact HB.out | apply below_alloc | apply pw_below_drewN | apply below_drew1) | exact HB.out))); (case aF => exact (fun k_ hk => Kd.fresh' (Kd.R_lt (by (with_reducible repeat (first | apply Kd.R_alloc | apply Kd.R_drewN | apply Kd.R_drew)); exact HO110.out)) k_ hk)); (case aO => exact (by (with_reducible repeat (first | apply Kd.R_alloc | apply Kd.R_drewN | apply Kd.R_drew)); exact Kd.R_mono HO_6.out (fun _ hk => hk.2))); (case aS => exact (below_size (by repeat (first | (with_reducible first | exact HB.out | apply below_alloc | apply pw_below_drewN | apply below_drew1) | exact HB.out)))); (case aL => have := LMc18.out; omega); intro v114 w26 ho hb hg hat; rw [← Ny113.out] at ho; have n0_ := Aside0.mk (Kd.R_after (ok := (fun _ => True)) (by (with_reducible repeat (first | apply Kd.R_alloc | apply Kd.R_drewN | apply Kd.R_drew)); exact Kd.R_mono HO110.out (fun _ hk => ⟨trivial, hk⟩)) hg hat); have n1_ := Aside0.mk (hb); have n2_ := Aside0.mk (ho); clear HO110; clear HB; clear HO_6; have HO110 := n0_; have HB := n1_; have HO115 := n2_; clear n0_ n1_ n2_; clear ho hb hg hat) | ((with_reducible refine gate_dst (N := 68) rfl ?_); (try (refine gate_guard (by rfl) ?_; dsimp only)); refine Kd.R_lit (Kd.int .u8) _ 5 ?hg (N := 68) ?hd (xs := ([(t111) % 256, (t112) % 256] : List Int)) (inner := [.int .u8 ((t111) % 256), .int .u8 ((t112) % 256)]) (ok := fun _ => True) (okp := fun _ => True) ?hr ?hp (fun _ hk => hk) trivial (Below.refl _ _) (Nat.le_refl _) (by simp) ?_; (case hd => rfl); (case hg => rfl); (case hr => first | (go_simp; done) | (go_simp; rfl)); (case hp => exact (Reps.one (show Kd.M (Kd.int .u8) _ _ _ ((t111) % 256) [.int .u8 ((t111) % 256)] from rfl) (Reps.one (show Kd.M (Kd.int .u8) _ _ _ ((t112) % 256) [.int .u8 ((t112) % 256)] from rfl) (Reps.none _ _)))); intro v117 w27 ho28 hb hg_ hnew_; clear hg_ hnew_; (first | rw [← Ny116.out] at ho28 | (simp only [Int.reduceToNat] at ho28; rw [← Ny116.out] at ho28)); have n0_ := Aside0.mk (Kd.R_elder' (by (with_reducible repeat (first | apply Kd.R_alloc | apply Kd.R_drewN | apply Kd.R_drew)); exact HO110.out) (Kd.R_base ho28) hb); have n1_ := Aside0.mk (Kd.R_elder' (by (with_reducible repeat (first | apply Kd.R_alloc | apply Kd.R_drewN | apply Kd.R_drew)); exact HO115.out) (Kd.R_base ho28) hb); have n2_ := Aside0.mk (Kd.R_lower (Kd.R_new' (Kd.R_new' ho28 (Kd.R_lt (by (with_reducible repeat (first | apply Kd.R_alloc | apply Kd.R_drewN | apply Kd.R_drew)); exact HO110.out))) (Kd.R_lt (by (with_reducible repeat (first | apply Kd.R_alloc | apply Kd.R_drewN | apply Kd.R_drew)); exact HO115.out))) (below_size (by repeat (first | (with_reducible first | exact HB.out | apply below_alloc | apply pw_below_drewN | apply below_drew1) | exact HB.out)))); have n3_ := Aside0.mk (below_step (by repeat (first | (with_reducible first | exact HB.out | apply below_alloc | apply pw_below_drewN | apply below_drew1) | exact HB.out)) hb); clear HO110; clear HO115; clear HB; have HO110 := n0_; have HO115 := n1_; have HO118 := n2_; have HB := n3_; clear n0_ n1_ n2_ n3_; clear hb ho28; obtain ⟨Ao30, co30, eo30⟩ := Kd.R_slice HO118.out; subst eo30) | ((with_reducible refine gate_builtin (b := .append) (xs := #[.tmp 63, .tmp 68]) rfl ?_); (try (refine gate_guard (by rfl) ?_; dsimp only)); at_builtin; refine Kd.R_append_rows (Kd.int .u8) (w0 := w) w.heap.size rfl (.tmp 63) (.tmp 68) 36 5 (.int .u8 0) 1 rfl Try.underlying36 info5 rfl (by decide) (by omega) v114 y113 y116 _ _ _ (fun k_ => some k_ ≠ (.slice Ao25 y108.length co25 : Value).ownBlock ∧ some k_ ≠ (.slice Ao30 y116.length co30 : Value).ownBlock) (fun _ => False) rfl rfl ?aO ?aR (fun _ _ h => h) (fun _ h => h.elim) ?aF ?aB ?aS ?aL ?_; (case aR => repeat (first | exact (Kd.R_reads' HO118.out).2.2 | (with_reducible refine Kd.C_alloc ?_ _) | (with_reducible refine Kd.C_drewN ?_ _) | (with_reducible refine Kd.C_drew ?_))); (case aB => exact (by repeat (first | (with_reducible first | exact HB.out | apply below_alloc | apply pw_below_drewN | apply below_drew1) | exact HB.out))); (case aF => exact (fun k_ hk => ⟨Kd.fresh' (Kd.R_lt (by (with_reducible repeat (first | apply Kd.R_alloc | apply Kd.R_drewN | apply Kd.R_drew)); exact HO110.out)) k_ hk, Kd.fresh' (Kd.R_lt (by (with_reducible repeat (first | apply Kd.R_alloc | apply Kd.R_drewN | apply Kd.R_drew)); exact HO118.out)) k_ hk⟩)); (case aO => exact (by (with_reducible repeat (first | apply Kd.R_alloc | apply Kd.R_drewN | apply Kd.R_drew)); exact HO115.out)); (case aS => exact (below_size (by repeat (first | (with_reducible first | exact HB.out | apply below_alloc | apply pw_below_drewN | apply below_drew1) | exact HB.out)))); (case aL => have := LMc19.out; omega); intro v120 w29 ho hb hg hat; rw [← Ny119.out] at ho; have n0_ := Aside0.mk (Kd.R_after (ok := (fun k_ => some k_ ≠ (.slice Ao30 y116.length co30 : Value).ownBlock)) (by (with_reducible repeat (first | apply Kd.R_alloc | apply Kd.R_drewN | apply Kd.R_drew)); exact Kd.R_mono HO110.out (fun _ hk => ⟨hk.2, hk.1.2⟩)) hg hat); have n1_ := Aside0.mk (Kd.R_after (ok := (fun k_ => some k_ ≠ (.slice Ao25 y108.length co25 : Value).ownBlock)) (by (with_reducible repeat (first | apply Kd.R_alloc | apply Kd.R_drewN | apply Kd.R_drew)); exact Kd.R_mono HO118.out (fun _ hk => ⟨hk.1.2, hk.2⟩)) hg hat); have n2_ := Aside0.mk (hb); have n3_ := Aside0.mk (ho); clear HO110; clear HO118; clear HB; clear HO115; have HO110 := n0_; have HO118 := n1_; have HB := n2_; have HO121 := n3_; clear n0_ n1_ n2_ n3_; clear ho hb hg hat))
                                  go_roundg k3
                                  case measure => have := HJ1.out; have := HK2.out; have := HK3.out; omega
                                  case rel => exact ⟨(y119), (wrap64 (x37_3 + 1)), (by first | rfl | (simp; done) | (simp [*]; done)), H', ⟨by have := HJ1.out; have := HK2.out; have := HK3.out; omega⟩, ⟨by (with_reducible repeat (first | apply Kd.R_alloc | apply Kd.R_drewN | apply Kd.R_drew)); exact Kd.R_mono HO121.out (fun _ hk => trivial)⟩, ⟨by repeat (first | (with_reducible first | exact HB.out | apply below_alloc | apply pw_below_drewN | apply below_drew1) | exact HB.out)⟩⟩
                                · rw [if_neg c19] at H
                                  exact absurd H (by simp)
                              · rw [if_neg c18] at H
                                exact absurd H (by simp)
                            · rw [if_neg c16] at H
                              exact absurd H (by simp)
                          · rw [if_neg c14] at H
                            exact absurd H (by simp)
                        · rw [if_neg c13] at H
                          have c13b0 : ((wrap64 (x37_3 + 1)) == (l0.length : Int)) = false := beq_eq_false_iff_ne.mpr c13
                          have c13b1 : ((wrap64 (x37_3 + 1)) != (l0.length : Int)) = true := bne_iff_ne.mpr c13
                          by_cases c31 : y104.length + (rd_L4 l0 x37_3).length < 140737488355328
                          · rw [if_pos c31] at H
                            have LMc31 := Aside0.mk c31
                            clear c31
                            obtain ⟨y122, hy122⟩ : ∃ y_ : List Int, y_ = (y104 ++ (rd_L4 l0 x37_3)) := ⟨_, rfl⟩
                            replace H : ((bagnallref_walSums.f k3 y122).bind fun bt125 => (if x6_3.length + y122.length < 140737488355328 then ((some (x6_3 ++ y122 : List Int)).bind fun y127 => ((some (([(bt125.1) % 256, (bt125.2) % 256] : List Int) : List Int)).bind fun y130 => (if y127.length + y130.length < 140737488355328 then (bagnallref_WalPack.l1 k3 l0 (y127 ++ y130) l0 (l0.length : Int) (wrap64 (x37_3 + 1))) else (none)))) else (none))) = some (r1, r2) := by first | (rw [hy122]; with_reducible exact H) | (have H2_ := (Option.bind_some _ _).symm.trans H; rw [hy122]; with_reducible exact H2_) | (have H2_ := (Option.bind_some _ _).symm.trans H; with_reducible exact H2_) | with_reducible exact H | (rw [hy122]; exact H) | exact H
                            have Ny122 := Aside0.mk hy122
                            clear hy122
                            replace H := Option.bind_eq_some_iff.mp H
                            obtain ⟨⟨t125, t126⟩, A320, H⟩ := H
                            replace H : (if x6_3.length + y122.length < 140737488355328 then ((some (x6_3 ++ y122 : List Int)).bind fun y127 => ((some (([(t125) % 256, (t126) % 256] : List Int) : List Int)).bind fun y130 => (if y127.length + y130.length < 140737488355328 then (bagnallref_WalPack.l1 k3 l0 (y127 ++ y130) l0 (l0.length : Int) (wrap64 (x37_3 + 1))) else (none)))) else (none)) = some (r1, r2) := H
                            have A32 := Aside0.mk A320
                            clear A320
                            by_cases c33 : x6_3.length + y122.length < 140737488355328
                            · rw [if_pos c33] at H
                              have LMc33 := Aside0.mk c33
                              clear c33
                              obtain ⟨y127, hy127⟩ : ∃ y_ : List Int, y_ = (x6_3 ++ y122) := ⟨_, rfl⟩
                              replace H : ((some (([(t125) % 256, (t126) % 256] : List Int) : List Int)).bind fun y130 => (if y127.length + y130.length < 140737488355328 then (bagnallref_WalPack.l1 k3 l0 (y127 ++ y130) l0 (l0.length : Int) (wrap64 (x37_3 + 1))) else (none))) = some (r1, r2) := by first | (rw [hy127]; with_reducible exact H) | (have H2_ := (Option.bind_some _ _).symm.trans H; rw [hy127]; with_reducible exact H2_) | (have H2_ := (Option.bind_some _ _).symm.trans H; with_reducible exact H2_) | with_reducible exact H | (rw [hy127]; exact H) | exact H
                              have Ny127 := Aside0.mk hy127
                              clear hy127
                              obtain ⟨y130, hy130⟩ : ∃ y_ : List Int, y_ = (([(t125) % 256, (t126) % 256] : List Int)) := ⟨_, rfl⟩
                              replace H : (if y127.length + y130.length < 140737488355328 then (bagnallref_WalPack.l1 k3 l0 (y127 ++ y130) l0 (l0.length : Int) (wrap64 (x37_3 + 1))) else (none)) = some (r1, r2) := by first | (rw [hy130]; with_reducible exact H) | (have H2_ := (Option.bind_some _ _).symm.trans H; rw [hy130]; with_reducible exact H2_) | (have H2_ := (Option.bind_some _ _).symm.trans H; with_reducible exact H2_) | with_reducible exact H | (rw [hy130]; exact H) | exact H
                              have Ny130 := Aside0.mk hy130
                              clear hy130
                              by_cases c34 : y127.length + y130.length < 140737488355328
                              · rw [if_pos c34] at H
                                have LMc34 := Aside0.mk c34
                                clear c34
                                obtain ⟨y133, hy133⟩ : ∃ y_ : List Int, y_ = (y127 ++ y130) := ⟨_, rfl⟩
                                replace H : (bagnallref_WalPack.l1 k3 l0 y133 l0 (l0.length : Int) (wrap64 (x37_3 + 1))) = some (r1, r2) := by first | (rw [hy133]; with_reducible exact H) | (have H2_ := (Option.bind_some _ _).symm.trans H; rw [hy133]; with_reducible exact H2_) | (have H2_ := (Option.bind_some _ _).symm.trans H; with_reducible exact H2_) | with_reducible exact H | (rw [hy133]; exact H) | exact H
                                have Ny133 := Aside0.mk hy133
                                clear hy133
                                have H' := Aside0.mk H
                                clear H
                                have p103 : 0 ≤ (x37_3 : Int) := of_decide_eq_true (by first | (with_reducible assumption) | assumption)
                                have q103 : x37_3 < (l0.length : Int) := of_decide_eq_true (by first | (with_reducible assumption) | assumption)
                                obtain ⟨ad103, A103_0, c103_0, e103, hx103_0, hl103_0, hi103_0⟩ := at_L4 HR0.out x37_3 p103 q103
                                cases e103
                                try replace hx103_0 := (HB.out.cell (World.block_lt_of_cell? w _ hx103_0)).trans hx103_0
                                have HR103_0 := Aside0.mk hi103_0
                                have HC103_0 := Aside0.mk hl103_0
                                clear hi103_0 hl103_0
                                replace p103 := eq_true p103
                                replace q103 := eq_true q103
                                go_wp2_with (first | ((with_reducible refine gate_dst (N := 45) rfl ?_); (try (refine gate_guard (by rfl) ?_; dsimp only)); refine Kd.R_lit (Kd.int .u8) _ 5 ?hg (N := 45) ?hd (xs := ([(((rd_L4 l0 x37_3).length : Int)) % 256, 0] : List Int)) (inner := [.int .u8 ((((rd_L4 l0 x37_3).length : Int)) % 256), .int .u8 0]) (ok := fun _ => True) (okp := fun _ => True) ?hr ?hp (fun _ hk => hk) trivial (Below.refl _ _) (Nat.le_refl _) (by simp) ?_; (case hd => rfl); (case hg => rfl); (case hr => first | (go_simp; done) | (go_simp; rfl)); (case hp => exact (Reps.one (show Kd.M (Kd.int .u8) _ _ _ ((((rd_L4 l0 x37_3).length : Int)) % 256) [.int .u8 ((((rd_L4 l0 x37_3).length : Int)) % 256)] from rfl) (Reps.one (show Kd.M (Kd.int .u8) _ _ _ 0 [.int .u8 0] from rfl) (Reps.none _ _)))); intro v105 w35 ho36 hb hg_ hnew_; clear hg_ hnew_; (first | rw [← Ny104.out] at ho36 | (simp only [Int.reduceToNat] at ho36; rw [← Ny104.out] at ho36)); have n0_ := Aside0.mk (Kd.R_elder' (by (with_reducible repeat (first | apply Kd.R_alloc | apply Kd.R_drewN | apply Kd.R_drew)); exact HO_6.out) (Kd.R_base ho36) hb); have n1_ := Aside0.mk (Kd.R_lower (Kd.R_new' ho36 (Kd.R_lt (by (with_reducible repeat (first | apply Kd.R_alloc | apply Kd.R_drewN | apply Kd.R_drew)); exact HO_6.out))) (below_size (by repeat (first | (with_reducible first | exact HB.out | apply below_alloc | apply pw_below_drewN | apply below_drew1) | exact HB.out)))); have n2_ := Aside0.mk (below_step (by repeat (first | (with_reducible first | exact HB.out | apply below_alloc | apply pw_below_drewN | apply below_drew1) | exact HB.out)) hb); clear HO_6; clear HB; have HO_6 := n0_; have HO106 := n1_; have HB := n2_; clear n0_ n1_ n2_; clear hb ho36) | ((with_reducible refine gate_builtin (b := .append) (xs := #[.tmp 53, .tmp 54]) rfl ?_); (try (refine gate_guard (by rfl) ?_; dsimp only)); at_builtin; refine Kd.R_append_rows (Kd.int .u8) (w0 := w) w.heap.size rfl (.tmp 53) (.tmp 54) 36 5 (.int .u8 0) 1 rfl Try.underlying36 info5 rfl (by decide) (by omega) v105 y104 (rd_L4 l0 x37_3) _ _ _ (fun k_ => some k_ ≠ (u6 : Value).ownBlock) (fun _ => False) rfl rfl ?aO ?aR (fun _ _ h => h) (fun _ h => h.elim) ?aF ?aB ?aS ?aL ?_; (case aR => repeat (first | exact (Kd.C_below HR103_0.out HB.out) | (with_reducible refine Kd.C_alloc ?_ _) | (with_reducible refine Kd.C_drewN ?_ _) | (with_reducible refine Kd.C_drew ?_))); (case aB => exact (by repeat (first | (with_reducible first | exact HB.out | apply below_alloc | apply pw_below_drewN | apply below_drew1) | exact HB.out))); (case aF => exact (fun k_ hk => Kd.fresh' (Kd.R_lt (by (with_reducible repeat (first | apply Kd.R_alloc | apply Kd.R_drewN | apply Kd.R_drew)); exact HO_6.out)) k_ hk)); (case aO => exact (by (with_reducible repeat (first | apply Kd.R_alloc | apply Kd.R_drewN | apply Kd.R_drew)); exact Kd.R_mono HO106.out (fun _ hk => hk.2))); (case aS => exact (below_size (by repeat (first | (with_reducible first | exact HB.out | apply below_alloc | apply pw_below_drewN | apply below_drew1) | exact HB.out)))); (case aL => have := LMc31.out; omega); intro v123 w37 ho hb hg hat; rw [← Ny122.out] at ho; have n0_ := Aside0.mk (Kd.R_after (ok := (fun _ => True)) (by (with_reducible repeat (first | apply Kd.R_alloc | apply Kd.R_drewN | apply Kd.R_drew)); exact HO_6.out) hg hat); have n1_ := Aside0.mk (hb); have n2_ := Aside0.mk (ho); clear HO_6; clear HB; clear HO106; have HO_6 := n0_; have HB := n1_; have HO124 := n2_; clear n0_ n1_ n2_; clear ho hb hg hat; obtain ⟨Ao38, co38, eo38⟩ := Kd.R_slice HO124.out; subst eo38) | ((with_reducible refine gate_callee (f := 55) rfl ?_); refine goesL_ (some 58) rfl rfl Try.func55 (by kernel_rfl) rfl #[.slice Ao38 y122.length co38] rfl (by (try simp only [List.map_toArray, List.map_cons, List.map_nil]); first | done | rfl | (simp only [List.length_drop, List.length_take]; rfl)) ?_; (with_reducible refine (bagnallref_walSums.calls k3 _ _ y122 t125 t126 _ ?side1 ?side2 A32.out).mono ?_); (case side1 => repeat (first | exact (Kd.R_reads' HO124.out).2.2 | (with_reducible refine Kd.C_alloc ?_ _) | (with_reducible refine Kd.C_drewN ?_ _) | (with_reducible refine Kd.C_drew ?_))); (case side2 => exact (Kd.R_reads' HO124.out).2.1); rintro e w' ⟨rfl, ⟨nd, rfl⟩⟩; refine ⟨_, rfl, ?_⟩) | ((with_reducible refine gate_builtin (b := .append) (xs := #[.tmp 61, .tmp 62]) rfl ?_); (try (refine gate_guard (by rfl) ?_; dsimp only)); at_builtin; refine Kd.R_append_rows (Kd.int .u8) (w0 := w) w.heap.size rfl (.tmp 61) (.tmp 62) 36 5 (.int .u8 0) 1 rfl Try.underlying36 info5 rfl (by decide) (by omega) u6 x6_3 y122 _ _ _ (fun k_ => some k_ ≠ (.slice Ao38 y122.length co38 : Value).ownBlock) (fun _ => False) rfl rfl ?aO ?aR (fun _ _ h => h) (fun _ h => h.elim) ?aF ?aB ?aS ?aL ?_; (case aR => repeat (first | exact (Kd.R_reads' HO124.out).2.2 | (with_reducible refine Kd.C_alloc ?_ _) | (with_reducible refine Kd.C_drewN ?_ _) | (with_reducible refine Kd.C_drew ?_))); (case aB => exact (by repeat (first | (with_reducible first | exact HB.out | apply below_alloc | apply pw_below_drewN | apply below_drew1) | exact HB.out))); (case aF => exact (fun k_ hk => Kd.fresh' (Kd.R_lt (by (with_reducible repeat (first | apply Kd.R_alloc | apply Kd.R_drewN | apply Kd.R_drew)); exact HO124.out)) k_ hk)); (case aO => exact (by (with_reducible repeat (first | apply Kd.R_alloc | apply Kd.R_drewN | apply Kd.R_drew)); exact Kd.R_mono HO_6.out (fun _ hk => hk.2))); (case aS => exact (below_size (by repeat (first | (with_reducible first | exact HB.out | apply below_alloc | apply pw_below_drewN | apply below_drew1) | exact HB.out)))); (case aL => have := LMc33.out; omega); intro v128 w39 ho hb hg hat; rw [← Ny127.out] at ho; have n0_ := Aside0.mk (Kd.R_after (ok := (fun _ => True)) (by (with_reducible repeat (first | apply Kd.R_alloc | apply Kd.R_drewN | apply Kd.R_drew)); exact Kd.R_mono HO124.out (fun _ hk => ⟨trivial, hk⟩)) hg hat); have n1_ := Aside0.mk (hb); have n2_ := Aside0.mk (ho); clear HO124; clear HB; clear HO_6; have HO124 := n0_; have HB := n1_; have HO129 := n2_; clear n0_ n1_ n2_; clear ho hb hg hat) | ((with_reducible refine gate_dst (N := 68) rfl ?_); (try (refine gate_guard (by rfl) ?_; dsimp only)); refine Kd.R_lit (Kd.int .u8) _ 5 ?hg (N := 68) ?hd (xs := ([(t125) % 256, (t126) % 256] : List Int)) (inner := [.int .u8 ((t125) % 256), .int .u8 ((t126) % 256)]) (ok := fun _ => True) (okp := fun _ => True) ?hr ?hp (fun _ hk => hk) trivial (Below.refl _ _) (Nat.le_refl _) (by simp) ?_; (case hd => rfl); (case hg => rfl); (case hr => first | (go_simp; done) | (go_simp; rfl)); (case hp => exact (Reps.one (show Kd.M (Kd.int .u8) _ _ _ ((t125) % 256) [.int .u8 ((t125) % 256)] from rfl) (Reps.one (show Kd.M (Kd.int .u8) _ _ _ ((t126) % 256) [.int .u8 ((t126) % 256)] from rfl) (Reps.none _ _)))); intro v131 w40 ho41 hb hg_ hnew_; clear hg_ hnew_; (first | rw [← Ny130.out] at ho41 | (simp only [Int.reduceToNat] at ho41; rw [← Ny130.out] at ho41)); have n0_ := Aside0.mk (Kd.R_elder' (by (with_reducible repeat (first | apply Kd.R_alloc | apply Kd.R_drewN | apply Kd.R_drew)); exact HO124.out) (Kd.R_base ho41) hb); have n1_ := Aside0.mk (Kd.R_elder' (by (with_reducible repeat (first | apply Kd.R_alloc | apply Kd.R_drewN | apply Kd.R_drew)); exact HO129.out) (Kd.R_base ho41) hb); have n2_ := Aside0.mk (Kd.R_lower (Kd.R_new' (Kd.R_new' ho41 (Kd.R_lt (by (with_reducible repeat (first | apply Kd.R_alloc | apply Kd.R_drewN | apply Kd.R_drew)); exact HO124.out))) (Kd.R_lt (by (with_reducible repeat (first | apply Kd.R_alloc | apply Kd.R_drewN | apply Kd.R_drew)); exact HO129.out))) (below_size (by repeat (first | (with_reducible first | exact HB.out | apply below_alloc | apply pw_below_drewN | apply below_drew1) | exact HB.out)))); have n3_ := Aside0.mk (below_step (by repeat (first | (with_reducible first | exact HB.out | apply below_alloc | apply pw_below_drewN | apply below_drew1) | exact HB.out)) hb); clear HO124; clear HO129; clear HB; have HO124 := n0_; have HO129 := n1_; have HO132 := n2_; have HB := n3_; clear n0_ n1_ n2_ n3_; clear hb ho41; obtain ⟨Ao43, co43, eo43⟩ := Kd.R_slice HO132.out; subst eo43) | ((with_reducible refine gate_builtin (b := .append) (xs := #[.tmp 63, .tmp 68]) rfl ?_); (try (refine gate_guard (by rfl) ?_; dsimp only)); at_builtin; refine Kd.R_append_rows (Kd.int .u8) (w0 := w) w.heap.size rfl (.tmp 63) (.tmp 68) 36 5 (.int .u8 0) 1 rfl Try.underlying36 info5 rfl (by decide) (by omega) v128 y127 y130 _ _ _ (fun k_ => some k_ ≠ (.slice Ao38 y122.length co38 : Value).ownBlock ∧ some k_ ≠ (.slice Ao43 y130.length co43 : Value).ownBlock) (fun _ => False) rfl rfl ?aO ?aR (fun _ _ h => h) (fun _ h => h.elim) ?aF ?aB ?aS ?aL ?_; (case aR => repeat (first | exact (Kd.R_reads' HO132.out).2.2 | (with_reducible refine Kd.C_alloc ?_ _) | (with_reducible refine Kd.C_drewN ?_ _) | (with_reducible refine Kd.C_drew ?_))); (case aB => exact (by repeat (first | (with_reducible first | exact HB.out | apply below_alloc | apply pw_below_drewN | apply below_drew1) | exact HB.out))); (case aF => exact (fun k_ hk => ⟨Kd.fresh' (Kd.R_lt (by (with_reducible repeat (first | apply Kd.R_alloc | apply Kd.R_drewN | apply Kd.R_drew)); exact HO124.out)) k_ hk, Kd.fresh' (Kd.R_lt (by (with_reducible repeat (first | apply Kd.R_alloc | apply Kd.R_drewN | apply Kd.R_drew)); exact HO132.out)) k_ hk⟩)); (case aO => exact (by (with_reducible repeat (first | apply Kd.R_alloc | apply Kd.R_drewN | apply Kd.R_drew)); exact HO129.out)); (case aS => exact (below_size (by repeat (first | (with_reducible first | exact HB.out | apply below_alloc | apply pw_below_drewN | apply below_drew1) | exact HB.out)))); (case aL => have := LMc34.out; omega); intro v134 w42 ho hb hg hat; rw [← Ny133.out] at ho; have n0_ := Aside0.mk (Kd.R_after (ok := (fun k_ => some k_ ≠ (.slice Ao43 y130.length co43 : Value).ownBlock)) (by (with_reducible repeat (first | apply Kd.R_alloc | apply Kd.R_drewN | apply Kd.R_drew)); exact Kd.R_mono HO124.out (fun _ hk => ⟨hk.2, hk.1.2⟩)) hg hat); have n1_ := Aside0.mk (Kd.R_after (ok := (fun k_ => some k_ ≠ (.slice Ao38 y122.length co38 : Value).ownBlock)) (by (with_reducible repeat (first | apply Kd.R_alloc | apply Kd.R_drewN | apply Kd.R_drew)); exact Kd.R_mono HO132.out (fun _ hk => ⟨hk.1.2, hk.2⟩)) hg hat); have n2_ := Aside0.mk (hb); have n3_ := Aside0.mk (ho); clear HO124; clear HO132; clear HB; clear HO129; have HO124 := n0_; have HO132 := n1_; have HB := n2_; have HO135 := n3_; clear n0_ n1_ n2_ n3_; clear ho hb hg hat))
                                go_roundg k3
                                case measure => have := HJ1.out; have := HK2.out; have := HK3.out; omega
                                case rel => exact ⟨(y133), (wrap64 (x37_3 + 1)), (by first | rfl | (simp; done) | (simp [*]; done)), H', ⟨by have := HJ1.out; have := HK2.out; have := HK3.out; omega⟩, ⟨by (with_reducible repeat (first | apply Kd.R_alloc | apply Kd.R_drewN | apply Kd.R_drew)); exact Kd.R_mono HO135.out (fun _ hk => trivial)⟩, ⟨by repeat (first | (with_reducible first | exact HB.out | apply below_alloc | apply pw_below_drewN | apply below_drew1) | exact HB.out)⟩⟩
                              · rw [if_neg c34] at H
                                exact absurd H (by simp)
                            · rw [if_neg c33] at H
                              exact absurd H (by simp)
                          · rw [if_neg c31] at H
                            exact absurd H (by simp)
                      · rw [if_neg c12] at H
                        exact absurd H (by simp)
                    · rw [if_neg c11] at H
                      exact absurd H (by simp)
                  · rw [if_neg c10] at H
                    have c10b0 : decide (x37_3 < (l0.length : Int)) = false := decide_eq_false c10
                    clear c10
                    simp only [Option.some.injEq, Prod.mk.injEq] at H
                    obtain ⟨rfl, rfl⟩ := H
                    go_wp2
                    go_ret2
                    exact ⟨_, by first | rfl | (simp [errW_none, errW_some] <;> rfl) | (simp [*, errW_none, errW_some] <;> rfl), by (with_reducible repeat (first | apply Kd.R_alloc | apply Kd.R_drewN | apply Kd.R_drew)); exact HO_6.out, by repeat (first | (with_reducible first | exact HB.out | apply below_alloc | apply pw_below_drewN | apply below_drew1) | exact HB.out)⟩

/-! ### bagnalllaw_sameBytes: function 29 -/
def bagnalllaw_sameBytes.l0 : Nat → List Int → List Int → Int → Option (Bool)
  | 0, _, _, _ => none
  | k + 1, x0, x1, x5 => if x5 < (x0.length : Int) then (if 0 ≤ x5 then (if x5 < (x1.length : Int) then (if (rd x0 x5) = (rd x1 x5) then (bagnalllaw_sameBytes.l0 k x0 x1 (wrap64 (x5 + 1))) else (some false)) else (none)) else (none)) else (some true)
def bagnalllaw_sameBytes.f (k : Nat) (l0 : List Int) (l1 : List Int) : Option (Bool) := if (l0.length : Int) = (l1.length : Int) then (bagnalllaw_sameBytes.l0 k l0 l1 0) else (some false)
theorem bagnalllaw_sameBytes.mono_l : ∀ k, (∀ y0 y1 y2, LeO (bagnalllaw_sameBytes.l0 k y0 y1 y2) (bagnalllaw_sameBytes.l0 (k + 1) y0 y1 y2))
  | 0 => fun _ _ _ r h => by simp [bagnalllaw_sameBytes.l0] at h
  | k + 1 => by
    have ih0 := bagnalllaw_sameBytes.mono_l k
    · intro y0 y1 y2
      unfold bagnalllaw_sameBytes.l0
      repeat' first
      | (with_reducible exact ih0 _ _ _)
      | (with_reducible exact LeO.refl _)
      | (with_reducible exact LeO.none _)
      | (with_reducible refine LeO.ite ?_ ?_)
      | (with_reducible refine LeO.bind ?_ (fun _ => ?_))
      | exact ih0 _ _ _
      | exact LeO.none _
      | refine LeO.ite ?_ ?_
      | refine LeO.bind ?_ (fun _ => ?_)
theorem bagnalllaw_sameBytes.mono : ∀ a0 a1 k, LeO (bagnalllaw_sameBytes.f k a0 a1) (bagnalllaw_sameBytes.f (k + 1) a0 a1) := by
  intro a0 a1 k
  have ih0 := bagnalllaw_sameBytes.mono_l k
  unfold bagnalllaw_sameBytes.f
  repeat' first
      | (with_reducible exact ih0 _ _ _)
      | (with_reducible exact LeO.refl _)
      | (with_reducible exact LeO.none _)
      | (with_reducible refine LeO.ite ?_ ?_)
      | (with_reducible refine LeO.bind ?_ (fun _ => ?_))
      | exact ih0 _ _ _
      | exact LeO.none _
      | refine LeO.ite ?_ ?_
      | refine LeO.bind ?_ (fun _ => ?_)
set_option maxHeartbeats 8000000 in
set_option maxRecDepth 100000 in
theorem bagnalllaw_sameBytes.calls (k : Nat) (A0 : Option Addr) (c0 : Nat) (l0 : List Int) (A1 : Option Addr) (c1 : Nat) (l1 : List Int) (r : Bool) (w : World) (hr0 : Kd.C (Kd.int .u8) w A0 l0.length l0) (hc0 : l0.length ≤ c0) (hr1 : Kd.C (Kd.int .u8) w A1 l1.length l1) (hc1 : l1.length ≤ c1) (h : bagnalllaw_sameBytes.f k l0 l1 = some r) :
    Calls Try.prog 29 #[.slice A0 l0.length c0, .slice A1 l1.length c1] w fun e w' => e = .returned (.bool r) ∧ Drawn0 w w' := by
  have HR0 := Aside0.mk hr0
  have HC0 := Aside0.mk hc0
  clear hr0 hc0
  have HR1 := Aside0.mk hr1
  have HC1 := Aside0.mk hc1
  clear hr1 hc1
  have H : (if (l0.length : Int) = (l1.length : Int) then (bagnalllaw_sameBytes.l0 k l0 l1 0) else (some false)) = some r := h
  clear h
  by_cases c3 : (l0.length : Int) = (l1.length : Int)
  · rw [if_pos c3] at H
    have c3b0 : ((l0.length : Int) == (l1.length : Int)) = true := beq_iff_eq.mpr c3
    have c3b1 : ((l0.length : Int) != (l1.length : Int)) = false := bne_eq_false_iff_eq.mpr c3
    have c3b2 : (l0.length == l1.length) = true := by first | simpa using c3 | (simp at c3 ⊢; omega)
    clear c3
    have H' := Aside0.mk H
    clear H
    go_enter Try.func29, Try.ntmps29
    go_wp2
    repeat (go_quiet (fail); try go_wp2)
    go_loopg [5] k (fun kq v5 w' => ∃ (x5_1 : Int), v5 = .int .i64 x5_1 ∧ Aside0 (bagnalllaw_sameBytes.l0 kq l0 l1 x5_1 = some r) ∧ Aside0 (kq ≤ k) ∧ Drawn0 w w')
    case atStart => exact ⟨(0), (by first | rfl | (simp; done) | (simp [*]; done)), H', ⟨Nat.le_refl _⟩, by repeat (first | exact Drawn0.refl _ | apply Drawn0.step)⟩
    case round =>
      clear H'
      try clear c1
      try clear c2
      try clear p2
      try clear c3
      try clear c3b0
      try clear c3b1
      try clear c3b2
      obtain ⟨x5_1, rfl, HA, HK1, ⟨m1, rfl⟩⟩ := hrel
      cases gk with
      | zero => exact absurd HA.out (by simp [bagnalllaw_sameBytes.l0])
      | succ k1 =>
        have H := HA.out
        clear HA
        simp only [bagnalllaw_sameBytes.l0] at H
        by_cases c4 : x5_1 < (l0.length : Int)
        · rw [if_pos c4] at H
          have c4b0 : decide (x5_1 < (l0.length : Int)) = true := decide_eq_true c4
          clear c4
          by_cases c5 : 0 ≤ x5_1
          · rw [if_pos c5] at H
            have c5b0 : decide (0 ≤ x5_1) = true := decide_eq_true c5
            clear c5
            by_cases c6 : x5_1 < (l1.length : Int)
            · rw [if_pos c6] at H
              have c6b0 : decide (x5_1 < (l1.length : Int)) = true := decide_eq_true c6
              clear c6
              by_cases c7 : (rd l0 x5_1) = (rd l1 x5_1)
              · rw [if_pos c7] at H
                have c7b0 : ((rd l0 x5_1) == (rd l1 x5_1)) = true := beq_iff_eq.mpr c7
                have c7b1 : ((rd l0 x5_1) != (rd l1 x5_1)) = false := bne_eq_false_iff_eq.mpr c7
                clear c7
                have H' := Aside0.mk H
                clear H
                have p136 : 0 ≤ (x5_1 : Int) := of_decide_eq_true (by first | (with_reducible assumption) | assumption)
                have q136 : x5_1 < (l0.length : Int) := of_decide_eq_true (by first | (with_reducible assumption) | assumption)
                obtain ⟨ad136, e136, hx136_0⟩ := Kd.at_int HR0.out x5_1 p136 q136
                cases e136
                replace p136 := eq_true p136
                replace q136 := eq_true q136
                have p137 : 0 ≤ (x5_1 : Int) := of_decide_eq_true (by first | (with_reducible assumption) | assumption)
                have q137 : x5_1 < (l1.length : Int) := of_decide_eq_true (by first | (with_reducible assumption) | assumption)
                obtain ⟨ad137, e137, hx137_0⟩ := Kd.at_int HR1.out x5_1 p137 q137
                cases e137
                replace p137 := eq_true p137
                replace q137 := eq_true q137
                go_wp2
                repeat (go_quiet (fail); try go_wp2)
                go_roundg k1
                case measure => have := HK1.out; omega
                case rel => exact ⟨(wrap64 (x5_1 + 1)), (by first | rfl | (simp; done) | (simp [*]; done)), H', ⟨by have := HK1.out; omega⟩, by repeat (first | exact Drawn0.refl _ | apply Drawn0.step)⟩
              · rw [if_neg c7] at H
                have c7b0 : ((rd l0 x5_1) == (rd l1 x5_1)) = false := beq_eq_false_iff_ne.mpr c7
                have c7b1 : ((rd l0 x5_1) != (rd l1 x5_1)) = true := bne_iff_ne.mpr c7
                obtain rfl := Option.some.inj H
                have p136 : 0 ≤ (x5_1 : Int) := of_decide_eq_true (by first | (with_reducible assumption) | assumption)
                have q136 : x5_1 < (l0.length : Int) := of_decide_eq_true (by first | (with_reducible assumption) | assumption)
                obtain ⟨ad136, e136, hx136_0⟩ := Kd.at_int HR0.out x5_1 p136 q136
                cases e136
                replace p136 := eq_true p136
                replace q136 := eq_true q136
                have p137 : 0 ≤ (x5_1 : Int) := of_decide_eq_true (by first | (with_reducible assumption) | assumption)
                have q137 : x5_1 < (l1.length : Int) := of_decide_eq_true (by first | (with_reducible assumption) | assumption)
                obtain ⟨ad137, e137, hx137_0⟩ := Kd.at_int HR1.out x5_1 p137 q137
                cases e137
                replace p137 := eq_true p137
                replace q137 := eq_true q137
                go_wp2
                repeat (go_quiet (fail); try go_wp2)
                go_ret
                exact ⟨by first | rfl | (simp; done) | (simp [*]; done), by repeat (first | exact Drawn0.refl _ | apply Drawn0.step)⟩
            · rw [if_neg c6] at H
              exact absurd H (by simp)
          · rw [if_neg c5] at H
            exact absurd H (by simp)
        · rw [if_neg c4] at H
          have c4b0 : decide (x5_1 < (l0.length : Int)) = false := decide_eq_false c4
          clear c4
          obtain rfl := Option.some.inj H
          go_wp2
          repeat (go_quiet (fail); try go_wp2)
          go_ret
          exact ⟨by first | rfl | (simp; done) | (simp [*]; done), by repeat (first | exact Drawn0.refl _ | apply Drawn0.step)⟩
  · rw [if_neg c3] at H
    have c3b0 : ((l0.length : Int) == (l1.length : Int)) = false := beq_eq_false_iff_ne.mpr c3
    have c3b1 : ((l0.length : Int) != (l1.length : Int)) = true := bne_iff_ne.mpr c3
    have c3b2 : (l0.length == l1.length) = false := by first | simpa using c3 | (simp at c3 ⊢; omega)
    obtain rfl := Option.some.inj H
    go_enter Try.func29, Try.ntmps29
    go_wp2
    repeat (go_quiet (fail); try go_wp2)
    go_ret
    exact ⟨by first | rfl | (simp; done) | (simp [*]; done), by repeat (first | exact Drawn0.refl _ | apply Drawn0.step)⟩

/-- A state of type 90 at block g of W; what its slices lead to came in by w0. -/
def IsS90 (w0 W : World) (g : Nat) (f0 : List Int) (f1 : Int) : Prop := ∃ A0 c0, W.heap[g]? = some (.cells #[.slice A0 f0.length c0, .int .i64 f1] 90 (0, 0)) ∧ w0.heap.size ≤ g ∧ Kd.C (Kd.int .u8) w0 A0 f0.length f0
theorem IsS90.grown {w0 W : World} {g : Nat} {f0 : List Int} {f1 : Int} {W1 : World} {row : Option Nat} (h : IsS90 w0 W g f0 f1) (hw : W.grownBy W1 row) (hne : some g ≠ row) : IsS90 w0 W1 g f0 f1 := by
  obtain ⟨A0, c0, hb, hg, hr0⟩ := h
  exact ⟨A0, c0, blk_grown hb hw hne, hg, hr0⟩
theorem IsS90.own_neN {w0 W : World} {g : Nat} {f0 : List Int} {f1 : Int} {α : Type} {d : Kd α} {e : Nat} {base : Nat} {ok : Nat → Prop} {v : Value} {xs : List α} (h : IsS90 w0 W g f0 f1) (ho : Kd.N d e W base ok v xs) (ht : e ≠ 90) : some g ≠ v.ownBlock := by
  obtain ⟨A0, c0, hb, hg, hr0⟩ := h
  exact Kd.N_ne ho hb ht
theorem IsS90.fresh {w0 W : World} {g : Nat} {f0 : List Int} {f1 : Int} (h : IsS90 w0 W g f0 f1) : ∀ k, W.heap.size ≤ k → k ≠ g := by
  obtain ⟨A0, c0, hb, hg, hr0⟩ := h
  exact Kd.freshB hb
theorem IsS90.kept {w0 W : World} {g : Nat} {f0 : List Int} {f1 : Int} {W1 : World} {S : Nat → Prop} (h : IsS90 w0 W g f0 f1) (hk : Kept W W1 S) (hne : ¬ S g) : IsS90 w0 W1 g f0 f1 := by
  obtain ⟨A0, c0, hb, hg, hr0⟩ := h
  exact ⟨A0, c0, blk_kept hb hk hne, hg, hr0⟩
theorem IsS90.below {w0 W : World} {g : Nat} {f0 : List Int} {f1 : Int} {W1 : World} (h : IsS90 w0 W g f0 f1) (hw : Below W.heap.size W W1) : IsS90 w0 W1 g f0 f1 := h.grown (grown_of_below hw none) (by simp)
theorem IsS90.alloc {w0 W : World} {g : Nat} {f0 : List Int} {f1 : Int} (h : IsS90 w0 W g f0 f1) (o : Obj) : IsS90 w0 (W.alloc o) g f0 f1 := h.below (below_alloc (Below.refl _ _) o)
theorem IsS90.drewN {w0 W : World} {g : Nat} {f0 : List Int} {f1 : Int} (h : IsS90 w0 W g f0 f1) (m : Nat) : IsS90 w0 (W.drewN m) g f0 f1 := h
theorem IsS90.drew {w0 W : World} {g : Nat} {f0 : List Int} {f1 : Int} (h : IsS90 w0 W g f0 f1) : IsS90 w0 W.drew g f0 f1 := h
theorem IsS90.at_ {w0 W : World} {g : Nat} {f0 : List Int} {f1 : Int} {w' : World} {m : Nat} (hq : W.drewN m = w') (h : IsS90 w0 W g f0 f1) : IsS90 w0 w' g f0 f1 := by subst hq; exact IsS90.drewN h m
theorem IsS90.apart {w0 W : World} {g : Nat} {f0 : List Int} {f1 : Int} {α : Type} {d : Kd α} {e : Nat} {base : Nat} {ok : Nat → Prop} {v : Value} {xs : List α} (h : IsS90 w0 W g f0 f1) (ho : d.R e W base ok v xs) (ht : ∀ q, q ∈ e :: d.E → q ≠ 90) : d.R e W base (fun k => ok k ∧ k ≠ g) v xs := by
  obtain ⟨A0, c0, hb, hg, hr0⟩ := h
  exact Kd.R_types ho hb ht
theorem IsS90.own_ne {w0 W : World} {g : Nat} {f0 : List Int} {f1 : Int} {α : Type} {d : Kd α} {e : Nat} {base : Nat} {ok : Nat → Prop} {v : Value} {xs : List α} (h : IsS90 w0 W g f0 f1) (ho : d.R e W base ok v xs) (ht : e ≠ 90) : some g ≠ v.ownBlock := by
  obtain ⟨A0, c0, hb, hg, hr0⟩ := h
  exact Kd.R_ne ho hb ht
theorem IsS90.apartQ {w0 W : World} {g : Nat} {f0 : List Int} {f1 : Int} {α : Type} {d : Kd α} {e : Nat} {base : Nat} {ok : Nat → Prop} {v : Value} {xs : List α} (h : IsS90 w0 W g f0 f1) (ho : d.Q e W base ok v xs) (ht : ∀ q, q ∈ e :: d.E → q ≠ 90) : d.Q e W base (fun k => ok k ∧ k ≠ g) v xs := by
  obtain ⟨A0, c0, hb, hg, hr0⟩ := h
  exact Kd.Q_types ho hb ht
theorem IsS90.own_neQ {w0 W : World} {g : Nat} {f0 : List Int} {f1 : Int} {α : Type} {d : Kd α} {e : Nat} {base : Nat} {ok : Nat → Prop} {v : Value} {xs : List α} (h : IsS90 w0 W g f0 f1) (ho : d.Q e W base ok v xs) (ht : e ≠ 90) : some g ≠ v.ownBlock := by
  obtain ⟨A0, c0, hb, hg, hr0⟩ := h
  exact Kd.Q_ne ho hb ht
theorem IsS90.apartS {w0 W : World} {g : Nat} {f0 : List Int} {f1 : Int} {α : Type} {d : Kd α} {e : Nat} {base : Nat} {ok : Nat → Prop} {v : Value} {xs : List α} (h : IsS90 w0 W g f0 f1) (ho : d.S e W base ok v xs) (ht : ∀ q, q ∈ e :: d.E → q ≠ 90) : d.S e W base (fun k => ok k ∧ k ≠ g) v xs := by
  obtain ⟨A0, c0, hb, hg, hr0⟩ := h
  exact Kd.S_types ho hb ht
theorem IsS90.own_neS {w0 W : World} {g : Nat} {f0 : List Int} {f1 : Int} {α : Type} {d : Kd α} {e : Nat} {base : Nat} {ok : Nat → Prop} {v : Value} {xs : List α} (h : IsS90 w0 W g f0 f1) (ho : d.S e W base ok v xs) (ht : e ≠ 90) : some g ≠ v.ownBlock := by
  obtain ⟨A0, c0, hb, hg, hr0⟩ := h
  exact Kd.S_ne ho hb ht
theorem IsS90.lt {w0 W : World} {g : Nat} {f0 : List Int} {f1 : Int} (h : IsS90 w0 W g f0 f1) : g < W.heap.size := by
  obtain ⟨A0, c0, hb, hg, hr0⟩ := h
  exact blk_lt hb
theorem IsS90.ge {w0 W : World} {g : Nat} {f0 : List Int} {f1 : Int} (h : IsS90 w0 W g f0 f1) : w0.heap.size ≤ g := by
  obtain ⟨A0, c0, hb, hg, hr0⟩ := h
  exact hg
theorem IsS90.ne_blk {w0 W : World} {g : Nat} {f0 : List Int} {f1 : Int} {a : Nat} {cs : Array Value} {t : TypeId} {fr : Nat × Nat} (h : IsS90 w0 W g f0 f1) (hb2 : W.heap[a]? = some (.cells cs t fr)) (ht : t ≠ 90) : g ≠ a := by
  obtain ⟨A0, c0, hb, hg, hr0⟩ := h
  rintro rfl
  rw [hb] at hb2
  injection hb2 with hb2
  injection hb2 with _ ht2
  exact ht ht2.symm
theorem IsS90.far {w0 W : World} {g : Nat} {f0 : List Int} {f1 : Int} {p : Addr} (h : IsS90 w0 W g f0 f1) (hne : g ≠ p.block) (u : Value) : IsS90 w0 (W.setCell p u) g f0 f1 := by
  obtain ⟨A0, c0, hb, hg, hr0⟩ := h
  exact ⟨A0, c0, blk_far hb hne u, hg, hr0⟩
theorem cellS90_0 {W : World} {g : Nat} {A0 : Option Addr} {c0 : Nat} {f0 : List Int} {f1 : Int} (h : W.heap[g]? = some (.cells #[.slice A0 f0.length c0, .int .i64 f1] 90 (0, 0))) : W.cell? ⟨g, 0, none⟩ = some (.slice A0 f0.length c0) := (blk_cell h 0).trans rfl
theorem cellS90_1 {W : World} {g : Nat} {A0 : Option Addr} {c0 : Nat} {f0 : List Int} {f1 : Int} (h : W.heap[g]? = some (.cells #[.slice A0 f0.length c0, .int .i64 f1] 90 (0, 0))) : W.cell? ⟨g, 1, none⟩ = some (.int .i64 f1) := (blk_cell h 1).trans rfl
theorem IsS90.set_1 {w0 W : World} {g : Nat} {f0 : List Int} {f1 : Int} (h : IsS90 w0 W g f0 f1) (x : Int) : IsS90 w0 (W.setCell ⟨g, 1, none⟩ (.int .i64 x)) g f0 x := by
  obtain ⟨A0, c0, hb, hg, hr0⟩ := h
  exact ⟨A0, c0, by simpa using blk_set hb 1 (.int .i64 x), hg, hr0⟩
theorem IsS90.new (w0 W : World) (A0 : Option Addr) (c0 : Nat) (f0 : List Int) (f1 : Int) (hB : Below w0.heap.size w0 W) (hr0 : Kd.C (Kd.int .u8) w0 A0 f0.length f0) : IsS90 w0 (W.alloc (.cells #[.slice A0 f0.length c0, .int .i64 f1] 90)) W.heap.size f0 f1 := ⟨A0, c0, by simpa using heap_alloc_new W _, hB.size, hr0⟩

/-! ### disk_Disk_Sync: function 88 -/
def disk_Disk_Sync.f (s0_0 : List Int) (s0_1 : Int) : Option (Int) := some (s0_0.length : Int)
set_option maxHeartbeats 8000000 in
set_option maxRecDepth 100000 in
theorem disk_Disk_Sync.calls (g : Nat) (s0_0 : List Int) (s0_1 : Int) (r : Int) (w0 w : World) (hI : IsS90 w0 w g s0_0 s0_1) (hB : Below w0.heap.size w0 w) (h : disk_Disk_Sync.f s0_0 s0_1 = some r) :
    Calls Try.prog 88 #[.pointer (some ⟨g, 0, none⟩)] w fun e w' => e = .returned (.tuple #[]) ∧ IsS90 w0 w' g s0_0 r ∧ Below w0.heap.size w0 w' ∧ KeepBut w w' g none := by
  have HI0 := Aside0.mk hI
  have HK := Aside0.mk (KeepBut.refl w g none)
  have HL := Aside0.mk hB.size
  clear hI
  have HW0 := Aside0.mk hB.size
  have HB := Aside0.mk hB
  clear hB
  have H : (some (s0_0.length : Int)) = some r := h
  clear h
  obtain rfl := Option.some.inj H
  obtain ⟨ASz2_0, cSz2_0, HGz2, hgz2, HSz2_0⟩ := HI0.out
  have hcz2_0 := cellS90_0 HGz2
  have hcz2_1 := cellS90_1 HGz2
  have hfz2_1 := blk_frozen HGz2 1
  clear HGz2 hgz2
  go_enter Try.func88, Try.ntmps88
  go_wp2
  first | go_end0 | ((try simp only [Exit.inBlock, Exit.then]); refine bodyPost_ret (results_none rfl _ _ _) rfl ?_)
  exact ⟨by first | rfl | (simp [errW_none, errW_some] <;> rfl) | (simp [*, errW_none, errW_some] <;> rfl), by repeat (first | (with_reducible first | exact HI0.out | apply IsS90.alloc | apply IsS90.drewN | apply IsS90.drew | apply IsS90.set_1) | exact HI0.out), by repeat (first | (with_reducible first | exact HB.out | apply below_alloc | apply pw_below_drewN | apply below_drew1 | refine below_set ?_ (IsS90.ge HI0.out)) | exact HB.out), by repeat (first | (with_reducible first | exact HK.out | apply KeepBut.set_ | apply keep_drewN | apply keep_drew | apply keep_alloc) | exact HK.out)⟩

/-! ### wal_May: function 52 -/
def wal_May.f (l0 : List Int) : Option (Bool) := if (l0.length : Int) ≥ 1 then (some (decide ((l0.length : Int) ≤ 60))) else (some false)
set_option maxHeartbeats 8000000 in
set_option maxRecDepth 100000 in
theorem wal_May.calls (A0 : Option Addr) (c0 : Nat) (l0 : List Int) (r : Bool) (w : World) (hr0 : Kd.C (Kd.int .u8) w A0 l0.length l0) (hc0 : l0.length ≤ c0) (h : wal_May.f l0 = some r) :
    Calls Try.prog 52 #[.slice A0 l0.length c0] w fun e w' => e = .returned (.bool r) ∧ Drawn0 w w' := by
  have HR0 := Aside0.mk hr0
  have HC0 := Aside0.mk hc0
  clear hr0 hc0
  have H : (if (l0.length : Int) ≥ 1 then (some (decide ((l0.length : Int) ≤ 60))) else (some false)) = some r := h
  clear h
  by_cases c2 : (l0.length : Int) ≥ 1
  · rw [if_pos c2] at H
    have c2b0 : decide (1 ≤ (l0.length : Int)) = true := decide_eq_true c2
    have c2b1 : decide (1 ≤ l0.length) = true := decide_eq_true (by omega)
    clear c2
    obtain rfl := Option.some.inj H
    go_enter Try.func52, Try.ntmps52
    go_wp2
    go_ret
    exact ⟨by first | rfl | (simp; done) | (simp [*]; done), by repeat (first | exact Drawn0.refl _ | apply Drawn0.step)⟩
  · rw [if_neg c2] at H
    have c2b0 : decide (1 ≤ (l0.length : Int)) = false := decide_eq_false c2
    have c2b1 : decide (1 ≤ l0.length) = false := decide_eq_false (by omega)
    clear c2
    obtain rfl := Option.some.inj H
    go_enter Try.func52, Try.ntmps52
    go_wp2
    go_ret
    exact ⟨by first | rfl | (simp; done) | (simp [*]; done), by repeat (first | exact Drawn0.refl _ | apply Drawn0.step)⟩

/-! ### wal_Pack_1: function 51 -/
def wal_Pack_1.f (l0 : List Int) : Option (Bool) := (wal_May.f l0).bind fun t138 => (some (!t138))
set_option maxHeartbeats 8000000 in
set_option maxRecDepth 100000 in
theorem wal_Pack_1.calls (A0 : Option Addr) (c0 : Nat) (l0 : List Int) (r : Bool) (w : World) (hr0 : Kd.C (Kd.int .u8) w A0 l0.length l0) (hc0 : l0.length ≤ c0) (h : wal_Pack_1.f l0 = some r) :
    Calls Try.prog 51 #[.slice A0 l0.length c0] w fun e w' => e = .returned (.bool r) ∧ Drawn0 w w' := by
  have HR0 := Aside0.mk hr0
  have HC0 := Aside0.mk hc0
  clear hr0 hc0
  have H : ((wal_May.f l0).bind fun t138 => (some (!t138))) = some r := h
  clear h
  replace H := Option.bind_eq_some_iff.mp H
  obtain ⟨t138, A20, H⟩ := H
  replace H : (some (!t138)) = some r := H
  have A2 := Aside0.mk A20
  clear A20
  obtain rfl := Option.some.inj H
  go_enter Try.func51, Try.ntmps51
  go_wp2_with (first | ((with_reducible refine gate_callee (f := 52) rfl ?_); refine goesL_ (some 4) rfl rfl Try.func52 (by kernel_rfl) rfl #[.slice A0 l0.length c0] rfl (by (try simp only [List.map_toArray, List.map_cons, List.map_nil]); first | done | rfl | (simp only [List.length_drop, List.length_take]; rfl)) ?_; (with_reducible refine (wal_May.calls _ _ l0 t138 _ ?side1 ?side2 A2.out).mono ?_); (case side1 => repeat (first | exact HR0.out | (with_reducible refine Kd.C_alloc ?_ _) | (with_reducible refine Kd.C_drewN ?_ _) | (with_reducible refine Kd.C_drew ?_))); (case side2 => exact HC0.out); rintro e w' ⟨rfl, ⟨nd, rfl⟩⟩; refine ⟨_, rfl, ?_⟩))
  go_ret
  exact ⟨by first | rfl | (simp; done) | (simp [*]; done), by repeat (first | exact Drawn0.refl _ | apply Drawn0.step)⟩

/-! ### rows_Fault_1: function 68 -/
def rows_Fault_1.f (a0_0 : ByteArray) (a0_1 : ByteArray) : Option (Bool) := (rows_key.f a0_0).bind fun t140 => (if t140 = true then (some (decide ((a0_1.size : Int) > 20))) else (some true))
set_option maxHeartbeats 8000000 in
set_option maxRecDepth 100000 in
theorem rows_Fault_1.calls (a0_0 : ByteArray) (a0_1 : ByteArray) (r : Bool) (w : World) (h : rows_Fault_1.f a0_0 a0_1 = some r) :
    Calls Try.prog 68 #[.agg #[.string a0_0, .string a0_1]] w fun e w' => e = .returned (.bool r) ∧ Below w.heap.size w w' := by
  have hu69 := Try.underlying69
  have HB := Aside0.mk (Below.refl w.heap.size w)
  have H : ((rows_key.f a0_0).bind fun t140 => (if t140 = true then (some (decide ((a0_1.size : Int) > 20))) else (some true))) = some r := h
  clear h
  replace H := Option.bind_eq_some_iff.mp H
  obtain ⟨t140, A20, H⟩ := H
  replace H : (if t140 = true then (some (decide ((a0_1.size : Int) > 20))) else (some true)) = some r := H
  have A2 := Aside0.mk A20
  clear A20
  by_cases c3 : t140 = true
  · subst c3
    have H1 : (some (decide ((a0_1.size : Int) > 20))) = some r := by rw [if_pos rfl] at H; exact H
    clear H
    have H := H1
    clear H1
    obtain rfl := Option.some.inj H
    go_enter Try.func68, Try.ntmps68
    go_wp2_with (first | ((with_reducible refine gate_dst (N := 1) rfl ?_); (try (refine gate_guard (by rfl) ?_; dsimp only)); refine box_event ?hg (N := 1) ?hd (cs := #[.string a0_0, .string a0_1]) (t := 69) ?hr ?_; (case hd => rfl); (case hg => rfl); (case hr => first | (go_simp; done) | (go_simp; rfl)); intro gb139 hg w4 hbox hb; have n0_ := Aside0.mk (below_step (by repeat (first | (with_reducible first | exact HB.out | apply below_alloc | apply pw_below_drewN | apply below_drew1) | exact HB.out)) hb); have n1_ := Aside0.mk (hbox); have n2_ := Aside0.mk ((by rw [hg]; exact (below_size (by repeat (first | (with_reducible first | exact HB.out | apply below_alloc | apply pw_below_drewN | apply below_drew1) | exact HB.out))) : w.heap.size ≤ gb139)); have n3_ := Aside0.mk ((by rw [hg]; exact (below_size (by repeat (first | (with_reducible first | exact HB.out | apply below_alloc | apply pw_below_drewN | apply below_drew1) | exact HB.out))) : w.heap.size ≤ gb139)); clear HB; have HB := n0_; have BK139 := n1_; have GW139 := n2_; have GE139 := n3_; clear n0_ n1_ n2_ n3_; clear hb hbox hg; have hcz5_0 : w4.cell? ⟨gb139, 0, none⟩ = some (.string a0_0) := (blk_cell BK139.out 0).trans rfl; have hcz5_1 : w4.cell? ⟨gb139, 1, none⟩ = some (.string a0_1) := (blk_cell BK139.out 1).trans rfl; have hfz5_0 := blk_frozen BK139.out 0; have hfz5_1 := blk_frozen BK139.out 1) | ((with_reducible refine gate_callee (f := 44) rfl ?_); refine goesL_ (some 5) rfl rfl Try.func44 (by kernel_rfl) rfl #[.string a0_0] rfl (by (try simp only [List.map_toArray, List.map_cons, List.map_nil]); first | done | rfl | (simp only [List.length_drop, List.length_take]; rfl)) ?_; (with_reducible refine (rows_key.calls a0_0 true _ A2.out).mono ?_); rintro e w' ⟨rfl, ⟨nd, rfl⟩⟩; refine ⟨_, rfl, ?_⟩))
    go_ret
    exact ⟨by first | rfl | (simp [errW_none, errW_some] <;> rfl) | (simp [*, errW_none, errW_some] <;> rfl), by repeat (first | (with_reducible first | exact HB.out | apply below_alloc | apply pw_below_drewN | apply below_drew1 | refine below_set ?_ GE139.out) | exact HB.out)⟩
  · replace c3 := Bool.eq_false_iff.mpr c3
    subst c3
    have H1 : (some true) = some r := by rw [if_neg (show ¬ (false = true) by decide)] at H; exact H
    clear H
    have H := H1
    clear H1
    obtain rfl := Option.some.inj H
    go_enter Try.func68, Try.ntmps68
    go_wp2_with (first | ((with_reducible refine gate_dst (N := 1) rfl ?_); (try (refine gate_guard (by rfl) ?_; dsimp only)); refine box_event ?hg (N := 1) ?hd (cs := #[.string a0_0, .string a0_1]) (t := 69) ?hr ?_; (case hd => rfl); (case hg => rfl); (case hr => first | (go_simp; done) | (go_simp; rfl)); intro gb139 hg w6 hbox hb; have n0_ := Aside0.mk (below_step (by repeat (first | (with_reducible first | exact HB.out | apply below_alloc | apply pw_below_drewN | apply below_drew1) | exact HB.out)) hb); have n1_ := Aside0.mk (hbox); have n2_ := Aside0.mk ((by rw [hg]; exact (below_size (by repeat (first | (with_reducible first | exact HB.out | apply below_alloc | apply pw_below_drewN | apply below_drew1) | exact HB.out))) : w.heap.size ≤ gb139)); have n3_ := Aside0.mk ((by rw [hg]; exact (below_size (by repeat (first | (with_reducible first | exact HB.out | apply below_alloc | apply pw_below_drewN | apply below_drew1) | exact HB.out))) : w.heap.size ≤ gb139)); clear HB; have HB := n0_; have BK139 := n1_; have GW139 := n2_; have GE139 := n3_; clear n0_ n1_ n2_ n3_; clear hb hbox hg; have hcz7_0 : w6.cell? ⟨gb139, 0, none⟩ = some (.string a0_0) := (blk_cell BK139.out 0).trans rfl; have hcz7_1 : w6.cell? ⟨gb139, 1, none⟩ = some (.string a0_1) := (blk_cell BK139.out 1).trans rfl; have hfz7_0 := blk_frozen BK139.out 0; have hfz7_1 := blk_frozen BK139.out 1) | ((with_reducible refine gate_callee (f := 44) rfl ?_); refine goesL_ (some 5) rfl rfl Try.func44 (by kernel_rfl) rfl #[.string a0_0] rfl (by (try simp only [List.map_toArray, List.map_cons, List.map_nil]); first | done | rfl | (simp only [List.length_drop, List.length_take]; rfl)) ?_; (with_reducible refine (rows_key.calls a0_0 false _ A2.out).mono ?_); rintro e w' ⟨rfl, ⟨nd, rfl⟩⟩; refine ⟨_, rfl, ?_⟩))
    go_ret
    exact ⟨by first | rfl | (simp [errW_none, errW_some] <;> rfl) | (simp [*, errW_none, errW_some] <;> rfl), by repeat (first | (with_reducible first | exact HB.out | apply below_alloc | apply pw_below_drewN | apply below_drew1 | refine below_set ?_ GE139.out) | exact HB.out)⟩

end Go.Proofs.Ytnjidfgjldkkcaa.Q
/- wal.first, wal.Read, wal.Scan, walked. -/
namespace Go.Proofs.Ytnjidfgjldkkcaa.Q
open Go.RowKit Go.Proofs.YtnjidfgjldkkcaaW.PrintWords Go.Proofs.YtnjidfgjldkkcaaW.PrintLast Go.Proofs.YtnjidfgjldkkcaaW.PrintMore
def headOk (b : List Int) : Bool := decide (2 ≤ b.length) && decide (1 ≤ rd b 0) && decide (rd b 0 ≤ 60) && decide (rd b 1 ≤ 1)
/-- The number of bytes of the head and the record. -/
def kOf (b : List Int) : Nat := 2 + (rd b 0).toNat
def sumOk (b : List Int) : Bool := decide (kOf b + 2 ≤ b.length) && ((sumsF 0 0 (b.take (kOf b))).1 % 256 == rd b (kOf b : Int) && (sumsF 0 0 (b.take (kOf b))).2 % 256 == rd b ((kOf b + 1 : Nat) : Int))
def firstF (b : List Int) : List Int × Bool × Nat := if (headOk b && sumOk b) = true then ((b.take (kOf b)).drop 2, rd b 1 == 1, kOf b + 2) else ([], false, 0)
theorem arr124 (a : Option Addr) (c : Nat) (w : World) : (Instr.arrayAt 124 (.slice a 2 c)).run Try.prog w = .ok (.pointer a) w := run_arrayAt w 124 5 2 a 2 c Try.underlying124 (Nat.le_refl _)
theorem eq124 (a b c d : Int) (w : World) : (Op.equalIn 10000 124 (.agg #[.int .u8 a, .int .u8 b]) (.agg #[.int .u8 c, .int .u8 d])).run Try.prog w = .ok (a == c && b == d) w := by
  obtain ⟨i, hi, _⟩ := Option.map_eq_some_iff.1 info5
  have hc : Try.prog.cellsOf 5 = 1 := by kernel_rfl
  rw [run_equalIn_array w 9999 _ _ Try.underlying124 hi, hc]
  have p1 : ∀ (x y : Int) (w : World), (part 5 #[.int .u8 x, .int .u8 y] 0).run Try.prog w = .ok (.int .u8 x) w := fun x y w => by simp [part, isAgg, run_underlying Try.underlying5]
  have p2 : ∀ (x y : Int) (w : World), (part 5 #[.int .u8 x, .int .u8 y] 1).run Try.prog w = .ok (.int .u8 y) w := fun x y w => by simp [part, isAgg, run_underlying Try.underlying5]
  have pe : ∀ (x y : Int) (w : World), (Op.equalIn 9999 5 (.int .u8 x) (.int .u8 y)).run Try.prog w = .ok (x == y) w := fun x y w => by
    rw [run_equalIn_int w 9998 5 .u8 .u8 _ _ Try.underlying5]
  simp only [show List.range 2 = [0, 1] from rfl, Op.eqItems, Nat.zero_mul, Nat.one_mul, Sem.run_bind, p1, pe, Result.andThen_ok]
  cases h1 : (a == c)
  · simp
  · simp only [Bool.not_true, Bool.false_eq_true, if_false, Bool.true_and]
    simp only [Sem.run_bind, p2, pe, Result.andThen_ok]
    cases h2 : (b == d) <;> simp
attribute [local go_sem] arr124 eq124
theorem wrap_k {k0 : Nat} (h : k0 ≤ 60) : IntKind.i64.wrap (2 + (k0 : Int) + 2) = 2 + (k0 : Int) + 2 := by
  rw [IntKind.wrap_i64]
  omega
set_option maxRecDepth 100000 in
set_option maxHeartbeats 4000000 in
theorem first_walk (A : Option Addr) (c : Nat) (b : List Int) (w : World) (hr : Kd.C (Kd.int .u8) w A b.length b) (hc : b.length ≤ c) (hl : b.length ≤ 1000000) :
    Calls Try.prog 74 #[.slice A b.length c] w fun e w' => ∃ A' c', e = .returned (.tuple #[.slice A' (firstF b).1.length c', .bool (firstF b).2.1, .int .i64 ((firstF b).2.2 : Int)]) ∧ (firstF b).1.length ≤ c' ∧ Kd.C (Kd.int .u8) w A' (firstF b).1.length (firstF b).1 ∧ Below w.heap.size w w' := by
  have HR := Aside0.mk hr
  have HC := Aside0.mk hc
  clear hr hc
  have none_ : ∀ (h : headOk b = false ∨ sumOk b = false), firstF b = ([], false, 0) := by
    intro h
    unfold firstF
    rw [if_neg]
    intro e
    rw [Bool.and_eq_true] at e
    rcases h with h | h <;> simp [h] at e
  have HN := Aside0.mk none_
  clear none_
  go_enter Try.func74, Try.ntmps74
  by_cases h2 : b.length < 2
  · have e := HN.out (.inl (by unfold headOk; rw [decide_eq_false (show ¬ 2 ≤ b.length by omega)]; rfl))
    replace e := Aside0.mk e
    go_wp2
    go_ret3
    rw [e.out]
    exact ⟨none, 0, rfl, Nat.le_refl _, Kd.C_nil _ _, Below.refl _ _⟩
  · obtain ⟨ad, rfl, hc0⟩ := Kd.at_int HR.out 0 (by omega) (by omega)
    obtain ⟨ad', had, hc1⟩ := Kd.at_int HR.out 1 (by omega) (by omega)
    obtain rfl := Option.some.inj had
    obtain ⟨x0, hx0⟩ : ∃ x, x = rd b 0 := ⟨_, rfl⟩
    obtain ⟨x1, hx1⟩ : ∃ x, x = rd b 1 := ⟨_, rfl⟩
    rw [← hx0] at hc0
    rw [← hx1] at hc1
    replace hx0 := Aside0.mk hx0
    replace hx1 := Aside0.mk hx1
    simp only [Int.toNat_zero, show (1 : Int).toNat = 1 from rfl] at hc0 hc1
    replace hc0 : w.cell? ad = some (.int .u8 x0) := hc0
    replace hc1 : w.cell? ⟨ad.block, ad.off + 1, none⟩ = some (.int .u8 x1) := hc1
    have hd2 : decide ((b.length : Int) < 2) = false := decide_eq_false (by omega)
    by_cases h3 : x0 < 1
    · have e := Aside0.mk (HN.out (.inl (by unfold headOk; rw [← hx0.out, decide_eq_false (show ¬ 1 ≤ x0 by omega), Bool.and_false]; rfl)))
      go_wp2
      go_ret3
      rw [e.out]
      exact ⟨none, 0, rfl, Nat.le_refl _, Kd.C_nil _ _, Below.refl _ _⟩
    by_cases h4 : 60 < x0
    · have e := Aside0.mk (HN.out (.inl (by unfold headOk; rw [← hx0.out, decide_eq_false (show ¬ x0 ≤ 60 by omega), Bool.and_false]; rfl)))
      go_wp2
      go_ret3
      rw [e.out]
      exact ⟨none, 0, rfl, Nat.le_refl _, Kd.C_nil _ _, Below.refl _ _⟩
    by_cases h5 : 1 < x1
    · have e := Aside0.mk (HN.out (.inl (by unfold headOk; rw [← hx1.out, decide_eq_false (show ¬ x1 ≤ 1 by omega), Bool.and_false])))
      go_wp2
      go_ret3
      rw [e.out]
      exact ⟨none, 0, rfl, Nat.le_refl _, Kd.C_nil _ _, Below.refl _ _⟩
    have hh : Aside0 (headOk b = true) := ⟨by unfold headOk; rw [← hx0.out, ← hx1.out, decide_eq_true (show 2 ≤ b.length by omega), decide_eq_true (show 1 ≤ x0 by omega), decide_eq_true (show x0 ≤ 60 by omega), decide_eq_true (show x1 ≤ 1 by omega)]; rfl⟩
    obtain ⟨k0, rfl⟩ : ∃ k0 : Nat, x0 = k0 := ⟨x0.toNat, by omega⟩
    have hk : Aside0 (kOf b = 2 + k0) := ⟨by unfold kOf; rw [← hx0.out]; simp⟩
    by_cases h6 : b.length < k0 + 4
    · have e := Aside0.mk (HN.out (.inr (by unfold sumOk; rw [hk.out, decide_eq_false (show ¬ 2 + k0 + 2 ≤ b.length by omega), Bool.false_and])))
      have hd6 : decide ((b.length : Int) < 2 + (k0 : Int) + 2) = true := decide_eq_true (by omega)
      have hw6 : IntKind.i64.wrap (2 + (k0 : Int) + 2) = 2 + (k0 : Int) + 2 := wrap_k (by omega)
      go_wp2
      go_quiet (fail)
      go_wp2
      go_ret3
      rw [e.out]
      exact ⟨none, 0, rfl, Nat.le_refl _, Kd.C_nil _ _, pw_below_drewN (Below.refl _ _) _⟩
    have hd6 : decide ((b.length : Int) < 2 + (k0 : Int) + 2) = false := decide_eq_false (by omega)
    have hw6 : IntKind.i64.wrap (2 + (k0 : Int) + 2) = 2 + (k0 : Int) + 2 := wrap_k (by omega)
    have hT := Aside0.mk (Kd.C_take HR.out (show 2 + k0 ≤ b.length by omega))
    obtain ⟨ad', had, hc2⟩ := Kd.at_int HR.out (((2 + k0 : Nat) : Int)) (by omega) (by omega)
    obtain rfl := Option.some.inj had
    obtain ⟨ad', had, hc3⟩ := Kd.at_int HR.out (((2 + k0 + 1 : Nat) : Int)) (by omega) (by omega)
    obtain rfl := Option.some.inj had
    obtain ⟨y0, hy0⟩ : ∃ x, x = rd b (((2 + k0 : Nat) : Int)) := ⟨_, rfl⟩
    obtain ⟨y1, hy1⟩ : ∃ x, x = rd b (((2 + k0 + 1 : Nat) : Int)) := ⟨_, rfl⟩
    rw [← hy0] at hc2
    rw [← hy1] at hc3
    replace hy0 := Aside0.mk hy0
    replace hy1 := Aside0.mk hy1
    simp only [Int.toNat_natCast] at hc2 hc3
    replace hc3 : w.cell? ⟨(ad.add (2 + k0)).block, (ad.add (2 + k0)).off + 1, none⟩ = some (.int .u8 y1) := by
      have : ad.add (2 + k0 + 1) = ⟨(ad.add (2 + k0)).block, (ad.add (2 + k0)).off + 1, none⟩ := by unfold Addr.add; rw [if_neg (by omega), if_neg (by omega)]; rfl
      rw [← this]; exact hc3
    have HB := Aside0.mk (Below.refl w.heap.size w)
    go_wp2
    have hcc := HC.out
    have f1 : (2 + (k0 : Int)).toNat = 2 + k0 := by omega
    have f2 : (2 + (k0 : Int) + 2).toNat = 2 + k0 + 2 := by omega
    have f3 : (0 : Int) ≤ 2 + (k0 : Int) := by omega
    have f4 : 2 + (k0 : Int) ≤ (c : Int) := by omega
    have f5 : (0 : Int) ≤ 2 + (k0 : Int) + 2 := by omega
    have f6 : 2 + (k0 : Int) + 2 ≤ (c : Int) := by omega
    have f7 : 2 + (k0 : Int) ≤ 2 + (k0 : Int) + 2 := by omega
    have f8 : 2 + k0 ≤ c := by omega
    have f9 : 2 + k0 + 2 ≤ c := by omega
    have f10 : ¬ c = 2 + k0 := by omega
    have f11 : ¬ c = 0 := by omega
    have f12 : 2 + k0 + 2 - (2 + k0) = 2 := by omega
    have f13 : (2 : Int) ≤ 2 + (k0 : Int) := by omega
    have f14 : ¬ k0 = 0 := by omega
    have f15 : ¬ 2 + k0 = 2 := by omega
    have f16 : 2 ≤ 2 + k0 := by omega
    have f17 : 2 + k0 - 2 = k0 := by omega
    have hS : ∀ w' : World, Below w.heap.size w w' → (w'.cell? (ad.add (2 + k0)) = some (.int .u8 y0) ∧ w'.cell? ⟨(ad.add (2 + k0)).block, (ad.add (2 + k0)).off + 1, none⟩ = some (.int .u8 y1) ∧ Below w.heap.size w w') := fun w' h => ⟨(h.cell (World.block_lt_of_cell? w _ hc2)).trans hc2, (h.cell (World.block_lt_of_cell? w _ hc3)).trans hc3, h⟩
    have hLt : Aside0 ((b.take (2 + k0)).length = 2 + k0) := ⟨by rw [List.length_take]; omega⟩
    have hTl : Aside0 ((b.take (2 + k0)).length ≤ c ∧ (b.take (2 + k0)).length ≤ 1000000000) := ⟨by rw [hLt.out]; omega⟩
    cases hq : ((sumsF 0 0 (List.take (2 + k0) b)).1 % 256 == y0 && (sumsF 0 0 (List.take (2 + k0) b)).2 % 256 == y1)
    all_goals go_region_held3 (fun w' => w'.cell? (ad.add (2 + k0)) = some (.int .u8 y0) ∧ w'.cell? ⟨(ad.add (2 + k0)).block, (ad.add (2 + k0)).off + 1, none⟩ = some (.int .u8 y1) ∧ Below w.heap.size w w') (first | assumption | exact hS _ (below_drew (Below.refl _ _))) (first | (go_at_call 86; refine ((hLt.out ▸ sums_walk (some ad) c (b.take (2 + k0)) _ (Kd.C_below hT.out (And.right (And.right (by assumption)))) hTl.out.1 hTl.out.2 : Calls Try.prog 86 #[.slice (some ad) (2 + k0) c] _ _)).mono ?_; rintro e w1 ⟨rfl, hb⟩; have hS1 := hS _ (below_step (And.right (And.right (by assumption))) hb)))
    · have hBW := hS1.2.2
      go_wp2
      have e := HN.out (.inr (by unfold sumOk; rw [hk.out, ← hy0.out, ← hy1.out, hq, Bool.and_false]))
      go_ret3
      rw [e]
      exact ⟨none, 0, rfl, Nat.le_refl _, Kd.C_nil _ _, hBW⟩
    · have hBW := hS1.2.2
      go_wp2
      have e := HN.out (.inr (by unfold sumOk; rw [hk.out, ← hy0.out, ← hy1.out, hq, Bool.and_false]))
      go_ret3
      rw [e]
      exact ⟨none, 0, rfl, Nat.le_refl _, Kd.C_nil _ _, hBW⟩
    · have hBW := hS1.2.2
      have hcb := (hS1.2.2.cell (World.block_lt_of_cell? w _ hc1)).trans hc1
      go_wp2
      go_quiet (fail)
      go_wp2
      have e : firstF b = ((b.take (2 + k0)).drop 2, x1 == 1, 2 + k0 + 2) := by
        have hs : sumOk b = true := by
          unfold sumOk
          rw [hk.out, ← hy0.out, ← hy1.out, hq, Bool.and_true]
          exact decide_eq_true (by omega)
        unfold firstF
        rw [hh.out, hs, Bool.true_and, if_pos rfl, hk.out, ← hx1.out]
      have hm := Kd.C_mid (lo := 2) (hi := 2 + k0) HR.out (by omega) (by omega) HC.out
      have hml : ((b.take (2 + k0)).drop 2).length = k0 := by rw [List.length_drop, List.length_take]; omega
      rw [if_neg (by omega)] at hm
      go_ret3
      rw [e]
      refine ⟨some ⟨ad.block, ad.off + 2, none⟩, k0, ?_, ?_, hm, pw_below_drewN hBW _⟩
      · rw [hml]; rfl
      · rw [hml]; exact Nat.le_refl _
    · have hBW := hS1.2.2
      have hcb := (hS1.2.2.cell (World.block_lt_of_cell? w _ hc1)).trans hc1
      go_wp2
      go_quiet (fail)
      go_wp2
      have e : firstF b = ((b.take (2 + k0)).drop 2, x1 == 1, 2 + k0 + 2) := by
        have hs : sumOk b = true := by
          unfold sumOk
          rw [hk.out, ← hy0.out, ← hy1.out, hq, Bool.and_true]
          exact decide_eq_true (by omega)
        unfold firstF
        rw [hh.out, hs, Bool.true_and, if_pos rfl, hk.out, ← hx1.out]
      have hm := Kd.C_mid (lo := 2) (hi := 2 + k0) HR.out (by omega) (by omega) HC.out
      have hml : ((b.take (2 + k0)).drop 2).length = k0 := by rw [List.length_drop, List.length_take]; omega
      rw [if_neg (by omega)] at hm
      go_ret3
      rw [e]
      refine ⟨some ⟨ad.block, ad.off + 2, none⟩, k0, ?_, ?_, hm, pw_below_drewN hBW _⟩
      · rw [hml]; rfl
      · rw [hml]; exact Nat.le_refl _
end Go.Proofs.Ytnjidfgjldkkcaa.Q
/- slices.Clone at bytes, walked. -/
namespace Go.Proofs.Ytnjidfgjldkkcaa.Q
open Go.RowKit Go.Proofs.YtnjidfgjldkkcaaW.PrintWords Go.Proofs.YtnjidfgjldkkcaaW.PrintLast Go.Proofs.YtnjidfgjldkkcaaW.PrintMore
theorem nil36 (w : World) (a : Option Addr) (n c : Nat) : (binOp .eql 36 (.slice a n c) (.slice none 0 0)).run Try.prog w = .ok (.bool a.isNone) w := Lib.run_eql_slice_nil w 36 5 a n c 0 0 Try.underlying36
attribute [local go_sem] nil36
def slices_Clone_byte_byte.f (l : List Int) : Option (List Int) := if l.length ≤ 1000000000 then some l else none
set_option maxRecDepth 100000 in
set_option maxHeartbeats 4000000 in
theorem slices_Clone_byte_byte.calls (A0 : Option Addr) (c0 : Nat) (l0 : List Int) (r : List Int) (w : World) (hr0 : Kd.C (Kd.int .u8) w A0 l0.length l0) (hc0 : l0.length ≤ c0) (h : slices_Clone_byte_byte.f l0 = some r) :
    Calls Try.prog 58 #[.slice A0 l0.length c0] w fun e w' => ∃ v0_ : Value, e = .returned v0_ ∧ Kd.R (Kd.int .u8) 5 w' w.heap.size (fun _ => True) v0_ r ∧ Below w.heap.size w w' := by
  unfold slices_Clone_byte_byte.f at h
  split at h
  · rename_i hl
    obtain rfl := Option.some.inj h
    go_enter Try.func58, Try.ntmps58
    cases A0 with
    | none =>
      obtain ⟨h1, _, h3⟩ := hr0
      have hl0 : l0 = [] := by
        rcases Nat.eq_zero_or_pos l0.length with h0 | h0
        · exact List.eq_nil_of_length_eq_zero h0
        · obtain ⟨ad, h, _⟩ := h3 h0
          cases h
      subst hl0
      go_wp2
      go_ret
      exact ⟨.slice none 0 0, rfl, Kd.R_nil _ _ _ _ _, Below.refl _ _⟩
    | some ad =>
      have HR := Aside0.mk (Kd.C_below hr0 (below_alloc (Below.refl w.heap.size w) (.cells #[] 5)))
      have HB := Aside0.mk (below_alloc (Below.refl w.heap.size w) (.cells #[] 5))
      have HL := Aside0.mk hl
      clear hr0 hl
      go_wp2_with ((with_reducible refine gate_builtin (b := .append) (xs := #[.tmp 5, .tmp 6]) rfl ?_); at_builtin; refine Kd.R_append_rows (Kd.int .u8) (w0 := w) w.heap.size rfl (.tmp 5) (.tmp 6) 36 5 (.int .u8 0) 1 rfl Try.underlying36 info5 rfl (by decide) (by omega) _ [] l0 (some ad) l0.length c0 (fun _ => True) (fun _ => False) rfl rfl (R_empty (Kd.int .u8) 5 w) HR.out (fun x cs h => h) (fun _ h => h.elim) (fun _ _ => trivial) HB.out (below_size HB.out) (by have := HL.out; simp only [List.length_nil]; omega) ?_; intro v1 w1 ho hb hg hat; replace ho := Aside0.mk ho; replace hb := Aside0.mk hb; clear hg hat)
      go_ret
      exact ⟨v1, rfl, ho.out, hb.out⟩
  · cases h
end Go.Proofs.Ytnjidfgjldkkcaa.Q
/- wal.Read, wal.Scan, walked. -/
namespace Go.Proofs.Ytnjidfgjldkkcaa.Q
open Go.RowKit Go.Proofs.YtnjidfgjldkkcaaW.PrintWords Go.Proofs.YtnjidfgjldkkcaaW.PrintLast Go.Proofs.YtnjidfgjldkkcaaW.PrintMore
theorem R_apart {α β : Type} {d : Kd α} {d' : Kd β} {e e' : Nat} {w : World} {b b' : Nat} {ok ok' : Nat → Prop} {v u : Value} {xs : List α} {ys : List β} (h : d.R e w b ok v xs) (hu : d'.R e' w b' ok' u ys) (ht : ∀ q, q ∈ e :: d.E → q ≠ e') : d.R e w b (fun k => ok k ∧ some k ≠ u.ownBlock) v xs := by
  obtain ⟨_, inner, ho, _⟩ := hu
  refine Kd.R_mono (Kd.R_bound h) (fun k hk => ⟨hk.1, fun he => ?_⟩)
  obtain ⟨_, _, _, q, hq, cells, hc⟩ := hk
  obtain ⟨cells', hc'⟩ := own_typed ho k he.symm
  rw [hc] at hc'
  injection hc' with hc'
  injection hc' with _ hc'
  exact ht q hq hc'
def readF (b : List Int) : Nat → List (List (List Int)) → List (List Int) → Nat → Nat → List (List (List Int)) × Nat
  | 0, bs, _, used, _ => (bs, used)
  | f + 1, bs, ba, used, n => if (firstF (b.drop n)).2.2 = 0 then (bs, used)
    else if (firstF (b.drop n)).2.1 = true then readF b f (bs ++ [ba ++ [(firstF (b.drop n)).1]]) [] (n + (firstF (b.drop n)).2.2) (n + (firstF (b.drop n)).2.2)
    else readF b f bs (ba ++ [(firstF (b.drop n)).1]) used (n + (firstF (b.drop n)).2.2)
theorem firstF_wide (b : List Int) : (firstF b).2.2 ≤ b.length := by
  unfold firstF
  by_cases h : (headOk b && sumOk b) = true
  · rw [if_pos h]
    rw [Bool.and_eq_true] at h
    have := h.2
    unfold sumOk at this
    rw [Bool.and_eq_true, decide_eq_true_eq] at this
    exact this.1
  · rw [if_neg h]; exact Nat.zero_le _
theorem firstF_nil : firstF [] = ([], false, 0) := rfl
theorem firstF_rec (b : List Int) : (firstF b).1.length ≤ b.length := by
  unfold firstF
  by_cases h : (headOk b && sumOk b) = true
  · rw [if_pos h]; simp only [List.length_drop, List.length_take]; omega
  · rw [if_neg h]; exact Nat.zero_le _
abbrev kB : Kd (List Int) := Kd.slice 5 (Kd.int .u8)
abbrev kBB : Kd (List (List Int)) := Kd.slice 36 kB
theorem first_walk' (A : Option Addr) (c m : Nat) (b : List Int) (rc : List Int) (last : Bool) (wd : Nat) (w : World) (hr : Kd.C (Kd.int .u8) w A b.length b) (hc : b.length ≤ c) (hl : b.length ≤ 1000000) (hm : b.length = m) (hrr : (rc, last, wd) = firstF b) :
    Calls Try.prog 74 #[.slice A m c] w fun e w' => ∃ A' c', e = .returned (.tuple #[.slice A' rc.length c', .bool last, .int .i64 (wd : Int)]) ∧ rc.length ≤ c' ∧ Kd.C (Kd.int .u8) w A' rc.length rc ∧ Below w.heap.size w w' := by
  subst hm
  have := first_walk A c b w hr hc hl
  rw [← hrr] at this
  exact this
set_option maxRecDepth 100000 in
set_option maxHeartbeats 8000000 in
theorem read_walk (A : Option Addr) (c : Nat) (b : List Int) (w : World) (hr : Kd.C (Kd.int .u8) w A b.length b) (hc : b.length ≤ c) (hl : b.length ≤ 1000000) :
    Calls Try.prog 56 #[.slice A b.length c] w fun e w' => ∃ v, e = .returned (.tuple #[v, .int .i64 ((readF b (b.length + 1) [] [] 0 0).2 : Int)]) ∧ Kd.R kBB 35 w' w.heap.size (fun _ => True) v (readF b (b.length + 1) [] [] 0 0).1 ∧ Below w.heap.size w w' := by
  have HR := Aside0.mk hr
  have HC := Aside0.mk hc
  have HL := Aside0.mk hl
  clear hr hc hl
  go_enter Try.func56, Try.ntmps56
  go_wp2
  go_loopw [2, 3, 4, 5] (fun v2 v3 v4 v5 wr => ∃ (f n used : Nat) (bs : List (List (List Int))) (ba : List (List Int)), v3 = .int .i64 used ∧ v5 = .int .i64 n ∧ Aside0 (n ≤ b.length) ∧ Aside0 (b.length < n + f) ∧ Aside0 (readF b f bs ba used n = readF b (b.length + 1) [] [] 0 0) ∧ Aside0 (bs.length ≤ n) ∧ Aside0 (ba.length ≤ n) ∧ Aside0 (Kd.R kBB 35 wr w.heap.size (fun k => True ∧ some k ≠ v4.ownBlock) v2 bs) ∧ Aside0 (Kd.R kB 36 wr w.heap.size (fun _ => True) v4 ba) ∧ Aside0 (Below w.heap.size w wr)) (fun _ _ _ v5 _ => b.length - (intOf v5).toNat)
  case atStart => exact ⟨b.length + 1, 0, 0, [], [], rfl, rfl, ⟨Nat.zero_le _⟩, ⟨by omega⟩, ⟨rfl⟩, ⟨Nat.zero_le _⟩, ⟨Nat.zero_le _⟩, ⟨Kd.R_nil _ _ _ _ _⟩, ⟨Kd.R_nil _ _ _ _ _⟩, ⟨Below.refl _ _⟩⟩
  case round =>
    obtain ⟨f, n, used, bs, ba, rfl, rfl, hn, hf, hs, hbl, hal, HO2, HO4, HB⟩ := hrel
    have hn' := hn.out
    have hc' := HC.out
    obtain ⟨g, rfl⟩ : ∃ g, f = g + 1 := ⟨f - 1, by have := hf.out; omega⟩
    obtain ⟨r, hrr⟩ : ∃ r, Aside0 (r = firstF (b.drop n)) := ⟨_, ⟨rfl⟩⟩
    have hw := Aside0.mk (firstF_wide (b.drop n))
    have hrc := Aside0.mk (firstF_rec (b.drop n))
    have hlen : Aside0 ((b.drop n).length = b.length - n) := ⟨List.length_drop⟩
    have hstep : Aside0 ((if r.2.2 = 0 then (bs, used) else if r.2.1 = true then readF b g (bs ++ [ba ++ [r.1]]) [] (n + r.2.2) (n + r.2.2) else readF b g bs (ba ++ [r.1]) used (n + r.2.2)) = readF b (b.length + 1) [] [] 0 0) := ⟨by rw [← hs.out, hrr.out]; rfl⟩
    have hD := Aside0.mk (Kd.C_drop (m := n) (c := c) (Kd.C_below HR.out HB.out) hn' hc')
    have hlc : Aside0 (b.length - n ≤ c - n ∧ b.length - n ≤ 1000000) := ⟨by have := HL.out; omega⟩
    by_cases hcn : c = n
    · have hz : Aside0 (r = ([], false, 0)) := ⟨by rw [hrr.out, List.drop_of_length_le (by omega)]; rfl⟩
      rw [if_pos hcn] at hD
      have hex : Aside0 ((bs, used) = readF b (b.length + 1) [] [] 0 0) := ⟨by have := hstep.out; rw [hz.out, if_pos rfl] at this; exact this⟩
      rw [hz.out] at hrr
      go_wp2_with (go_at_call 74; refine (first_walk' A 0 (b.length - n) (b.drop n) [] false 0 _ hD.out (by rw [hlen.out]; omega) (by rw [hlen.out]; exact hlc.out.2) hlen.out hrr.out).mono ?_; rintro e w1 ⟨A', c', rfl, hcr, hCr, hb⟩; have HB1 := Aside0.mk (below_step HB.out hb); have HO21 := Aside0.mk (Kd.R_drop (Kd.R_below HO2.out hb)); clear hcr hCr hb)
      go_ret2
      rw [← hex.out]
      exact ⟨_, rfl, HO21.out, HB1.out⟩
    · rw [if_neg hcn, show (Kd.int .u8).sz = 1 from rfl, Nat.mul_one] at hD
      obtain ⟨rc, last, wd⟩ := r
      by_cases hwd : wd = 0
      · subst hwd
        have hex : Aside0 ((bs, used) = readF b (b.length + 1) [] [] 0 0) := ⟨by have := hstep.out; rw [if_pos rfl] at this; exact this⟩
        go_wp2_with (go_at_call 74; refine (first_walk' (Option.map (fun x => x.add n) A) (c - n) (b.length - n) (b.drop n) rc _ _ _ hD.out (by rw [hlen.out]; exact hlc.out.1) (by rw [hlen.out]; exact hlc.out.2) hlen.out hrr.out).mono ?_; rintro e w1 ⟨A', c', rfl, hcr, hCr, hb⟩; have HB1 := Aside0.mk (below_step HB.out hb); have HO21 := Aside0.mk (Kd.R_below HO2.out hb); have HO41 := Aside0.mk (Kd.R_below HO4.out hb); have HCR := Aside0.mk (Kd.C_below hCr hb); have hcr' := Aside0.mk hcr; clear hcr hCr hb)
        go_ret2
        rw [← hex.out]
        exact ⟨_, rfl, Kd.R_drop HO21.out, HB1.out⟩
      · have hwd' : ((wd : Int) == 0) = false := by simp; omega
        have hrl : Aside0 (rc.length ≤ 1000000000) := ⟨by have h1 := hrc.out; rw [← hrr.out] at h1; replace h1 : rc.length ≤ _ := h1; have := hlen.out; have := HL.out; omega⟩
        have hwb : n + wd ≤ b.length := by have h1 := hw.out; rw [← hrr.out] at h1; replace h1 : wd ≤ _ := h1; have := hlen.out; omega
        have hbm : b.length ≤ 1000000 := HL.out
        cases last
        · have hex : Aside0 (readF b g bs (ba ++ [rc]) used (n + wd) = readF b (b.length + 1) [] [] 0 0) := ⟨by have := hstep.out; rw [if_neg hwd, if_neg (by simp)] at this; exact this⟩
          go_wp2_with (first | (go_at_call 74; refine (first_walk' (Option.map (fun x => x.add n) A) (c - n) (b.length - n) (b.drop n) rc _ _ _ hD.out (by rw [hlen.out]; exact hlc.out.1) (by rw [hlen.out]; exact hlc.out.2) hlen.out hrr.out).mono ?_; rintro e w1 ⟨A', c', rfl, hcr, hCr, hb⟩; have HB1 := Aside0.mk (below_step HB.out hb); have HO21 := Aside0.mk (Kd.R_below HO2.out hb); have HO41 := Aside0.mk (Kd.R_below HO4.out hb); have HCR := Aside0.mk (Kd.C_below hCr hb); have hcr' := Aside0.mk hcr; clear hcr hCr hb) | (go_at_call 58; refine (slices_Clone_byte_byte.calls A' c' rc rc _ HCR.out hcr'.out (by unfold slices_Clone_byte_byte.f; rw [if_pos hrl.out])).mono ?_; rintro e w2 ⟨vc, rfl, hoc, hb2⟩; obtain ⟨Ac, cc, rfl⟩ := Kd.R_slice hoc; have HB2 := Aside0.mk (below_step HB1.out hb2); have HO22 := Aside0.mk (Kd.R_below HO21.out hb2); have HO42 := Aside0.mk (Kd.R_below HO41.out hb2); have HOc := Aside0.mk (Kd.R_lower (Kd.R_mono (ok' := fun k => w1.heap.size ≤ k) (Kd.R_bound hoc) (fun k hk => hk.2.1)) HB1.out.size); have hap : Aside0 (∀ k, w1.heap.size ≤ k → True ∧ some k ≠ u4.ownBlock) := ⟨fun k hk => ⟨trivial, fun he => (by obtain ⟨_, inner, ho, _⟩ := HO41.out; have := own_lt ho k he.symm; omega)⟩⟩; clear hoc hb2) | ((with_reducible refine gate_builtin (b := .append) (xs := #[.tmp 21, .tmp 24]) rfl ?_); at_builtin; refine Kd.R_append kB (w0 := w) w.heap.size rfl (.tmp 21) (.tmp 24) 35 36 (.slice none 0 0) 24 rfl Try.underlying35 info36 rfl (by decide) (by omega) u4 ba rc [.slice Ac rc.length cc] (fun _ => True) (fun k => w1.heap.size ≤ k) rfl rfl ⟨_, rfl, HOc.out⟩ hap.out (fun _ _ => trivial) HO42.out HB2.out (below_size HB2.out) (by have := hal.out; have := HL.out; omega) ?_; intro v4 w3 ho hb hg hat; obtain ⟨A4, c4, rfl⟩ := Kd.R_slice ho; rw [List.length_append, List.length_singleton] at ho hat; have HO43 := Aside0.mk ho; have HB3 := Aside0.mk hb; have HO23 := Aside0.mk (Kd.R_after HO22.out hg hat); clear ho hb hg hat))
          go_roundw
          case rel => exact ⟨g, n + wd, used, bs, ba ++ [rc], rfl, by simp, ⟨hwb⟩, ⟨by have := hf.out; omega⟩, hex, ⟨by have := hbl.out; omega⟩, ⟨by have := hal.out; rw [List.length_append, List.length_singleton]; omega⟩, HO23, HO43, HB3⟩
          case measure => simp [intOf]; omega
        · have hex : Aside0 (readF b g (bs ++ [ba ++ [rc]]) [] (n + wd) (n + wd) = readF b (b.length + 1) [] [] 0 0) := ⟨by have := hstep.out; rw [if_neg hwd, if_pos rfl] at this; exact this⟩
          go_wp2_with (first | (go_at_call 74; refine (first_walk' (Option.map (fun x => x.add n) A) (c - n) (b.length - n) (b.drop n) rc _ _ _ hD.out (by rw [hlen.out]; exact hlc.out.1) (by rw [hlen.out]; exact hlc.out.2) hlen.out hrr.out).mono ?_; rintro e w1 ⟨A', c', rfl, hcr, hCr, hb⟩; have HB1 := Aside0.mk (below_step HB.out hb); have HO21 := Aside0.mk (Kd.R_below HO2.out hb); have HO41 := Aside0.mk (Kd.R_below HO4.out hb); have HCR := Aside0.mk (Kd.C_below hCr hb); have hcr' := Aside0.mk hcr; clear hcr hCr hb) | (go_at_call 58; refine (slices_Clone_byte_byte.calls A' c' rc rc _ HCR.out hcr'.out (by unfold slices_Clone_byte_byte.f; rw [if_pos hrl.out])).mono ?_; rintro e w2 ⟨vc, rfl, hoc, hb2⟩; obtain ⟨Ac, cc, rfl⟩ := Kd.R_slice hoc; have HB2 := Aside0.mk (below_step HB1.out hb2); have HO22 := Aside0.mk (Kd.R_below HO21.out hb2); have HO42 := Aside0.mk (Kd.R_below HO41.out hb2); have HOc := Aside0.mk (Kd.R_lower (Kd.R_mono (ok' := fun k => w1.heap.size ≤ k) (Kd.R_bound hoc) (fun k hk => hk.2.1)) HB1.out.size); have hap : Aside0 (∀ k, w1.heap.size ≤ k → True ∧ some k ≠ u4.ownBlock) := ⟨fun k hk => ⟨trivial, fun he => (by obtain ⟨_, inner, ho, _⟩ := HO41.out; have := own_lt ho k he.symm; omega)⟩⟩; clear hoc hb2) | ((with_reducible refine gate_builtin (b := .append) (xs := #[.tmp 21, .tmp 24]) rfl ?_); at_builtin; refine Kd.R_append kB (w0 := w) w.heap.size rfl (.tmp 21) (.tmp 24) 35 36 (.slice none 0 0) 24 rfl Try.underlying35 info36 rfl (by decide) (by omega) u4 ba rc [.slice Ac rc.length cc] (fun _ => True) (fun k => w1.heap.size ≤ k) rfl rfl ⟨_, rfl, HOc.out⟩ hap.out (fun _ _ => trivial) HO42.out HB2.out (below_size HB2.out) (by have := hal.out; have := HL.out; omega) ?_; intro v4 w3 ho hb hg hat; obtain ⟨A4, c4, rfl⟩ := Kd.R_slice ho; rw [List.length_append, List.length_singleton] at ho hat; have HO43 := Aside0.mk ho; have HB3 := Aside0.mk hb; have HO23 := Aside0.mk (Kd.R_after HO22.out hg hat); clear ho hb hg hat) | ((with_reducible refine gate_builtin (b := .append) (xs := #[.tmp 30, .tmp 32]) rfl ?_); at_builtin; refine Kd.R_append kBB (w0 := w) w.heap.size rfl (.tmp 30) (.tmp 32) 41 35 (.slice none 0 0) 24 rfl Try.underlying41 info35 rfl (by decide) (by omega) u2 bs (ba ++ [rc]) [.slice A4 (ba.length + 1) c4] (fun _ => True) (fun k => True ∧ some k ≠ u2.ownBlock) rfl rfl ⟨_, rfl, R_apart HO43.out HO23.out (by intro q hq; simp [Kd.slice, Kd.int, Kd.scalar] at hq; omega)⟩ (fun k hk => hk) (fun _ _ => trivial) (Kd.R_drop HO23.out) HB3.out (below_size HB3.out) (by have := hbl.out; have := HL.out; omega) ?_; intro v5 w4 ho hb hg hat; have HO24 := Aside0.mk ho; have HB4 := Aside0.mk hb; clear ho hb hg hat))
          go_roundw
          case rel => exact ⟨g, n + wd, n + wd, bs ++ [ba ++ [rc]], [], by simp, by simp, ⟨hwb⟩, ⟨by have := hf.out; omega⟩, hex, ⟨by have := hbl.out; rw [List.length_append, List.length_singleton]; omega⟩, ⟨Nat.zero_le _⟩, ⟨Kd.R_apart_nil HO24.out⟩, ⟨Kd.R_nil _ _ _ _ _⟩, HB4⟩
          case measure => simp [intOf]; omega
def scanF (b : List Int) : List (List (List Int)) × Int × Int := if 1200 < b.length then ([], 0, 1) else ((readF b (b.length + 1) [] [] 0 0).1, ((readF b (b.length + 1) [] [] 0 0).2 : Int), 0)
def wal_Scan.f (b : List Int) : Option (List (List (List Int)) × Int × Int) := some (scanF b)
set_option maxRecDepth 100000 in
set_option maxHeartbeats 8000000 in
theorem wal_Scan.calls (A0 : Option Addr) (c0 : Nat) (l0 : List Int) (r1 : List (List (List Int))) (r2 : Int) (r3 : Int) (w : World) (hr0 : Kd.C (Kd.int .u8) w A0 l0.length l0) (hc0 : l0.length ≤ c0) (h : wal_Scan.f l0 = some (r1, r2, r3)) :
    Calls Try.prog 30 #[.slice A0 l0.length c0] w fun e w' => ∃ v0_ : Value, e = .returned (.tuple #[v0_, .int .i64 r2, .int .i64 r3]) ∧ Kd.R kBB 35 w' w.heap.size (fun _ => True) v0_ r1 ∧ Below w.heap.size w w' := by
  replace h := Option.some.inj h
  unfold scanF at h
  have HR := Aside0.mk hr0
  have HC := Aside0.mk hc0
  clear hr0 hc0
  go_enter Try.func30, Try.ntmps30
  by_cases h1 : 1200 < l0.length
  · rw [if_pos h1] at h
    simp only [Prod.mk.injEq] at h
    obtain ⟨rfl, rfl, rfl⟩ := h
    go_wp2
    go_ret3
    exact ⟨_, rfl, Kd.R_nil _ _ _ _ _, Below.refl _ _⟩
  · rw [if_neg h1] at h
    simp only [Prod.mk.injEq] at h
    obtain ⟨rfl, rfl, rfl⟩ := h
    go_wp2_with (go_at_call 56; refine (read_walk A0 c0 l0 _ HR.out HC.out (by omega)).mono ?_; rintro e w1 ⟨v, rfl, ho, hb⟩; have HO := Aside0.mk ho; have HB := Aside0.mk hb; clear ho hb)
    go_ret3
    exact ⟨_, rfl, HO.out, HB.out⟩
end Go.Proofs.Ytnjidfgjldkkcaa.Q
/- store.read, store.Recover, walked. -/
namespace Go.Proofs.Ytnjidfgjldkkcaa.Q
open Go.RowKit Go.Proofs.YtnjidfgjldkkcaaW.PrintWords Go.Proofs.YtnjidfgjldkkcaaW.PrintLast Go.Proofs.YtnjidfgjldkkcaaW.PrintMore
/-- The rows of records; none: one of these is no row. -/
def rowsOf : List S69 → List (List Int) → Option (List S69)
  | acc, [] => some acc
  | acc, r :: t => if (rowF r).2 = true then rowsOf (acc ++ [(rowF r).1]) t else none
/-- The table of batches. -/
def recF : List S69 → List (List (List Int)) → Option (List S69)
  | t, [] => some t
  | t, m :: rest => match rowsOf [] m with
    | none => none
    | some cs => if 40 < (changedF t cs).length then none else recF (changedF t cs) rest
theorem recF_nil (t : List S69) : recF t [] = some t := rfl
theorem recF_cons (t : List S69) (m : List (List Int)) (rest : List (List (List Int))) : recF t (m :: rest) = match rowsOf [] m with | none => none | some cs => if 40 < (changedF t cs).length then none else recF (changedF t cs) rest := rfl
def readS (b : List Int) : List S69 × Int × Int := match recF [] (readF b (b.length + 1) [] [] 0 0).1 with
  | none => ([], 0, 4)
  | some t => (t, ((readF b (b.length + 1) [] [] 0 0).2 : Int), 0)
/-- A record that a file may have. -/
def GoodRec (r : List Int) : Prop := 1 ≤ r.length ∧ r.length ≤ 60 ∧ ∀ x ∈ r, 0 ≤ x ∧ x ≤ 255
theorem firstF_good (b : List Int) (hb : ∀ x ∈ b, 0 ≤ x ∧ x ≤ 255) (h : ¬ (firstF b).2.2 = 0) : GoodRec (firstF b).1 := by
  unfold firstF at h ⊢
  by_cases hc : (headOk b && sumOk b) = true
  · rw [if_pos hc]
    rw [Bool.and_eq_true] at hc
    have h1 := hc.1
    have h2 := hc.2
    unfold headOk at h1
    unfold sumOk at h2
    simp only [Bool.and_eq_true, decide_eq_true_eq] at h1 h2
    have hk : kOf b = 2 + (rd b 0).toNat := rfl
    refine ⟨?_, ?_, fun x hx => hb x (List.mem_of_mem_take (List.mem_of_mem_drop hx))⟩
    · show 1 ≤ ((b.take (kOf b)).drop 2).length
      rw [List.length_drop, List.length_take]; omega
    · show ((b.take (kOf b)).drop 2).length ≤ 60
      rw [List.length_drop, List.length_take]; omega
  · rw [if_neg hc] at h
    exact absurd rfl h
theorem readF_good (b : List Int) (hb : ∀ x ∈ b, 0 ≤ x ∧ x ≤ 255) : ∀ (f : Nat) (bs : List (List (List Int))) (ba : List (List Int)) (used n : Nat), (∀ x ∈ bs, ∀ r ∈ x, GoodRec r) → (∀ r ∈ ba, GoodRec r) →
    ∀ x ∈ (readF b f bs ba used n).1, ∀ r ∈ x, GoodRec r
  | 0, bs, _, _, _, h, _ => h
  | f + 1, bs, ba, used, n, h, h2 => by
    unfold readF
    by_cases h1 : (firstF (b.drop n)).2.2 = 0
    · rw [if_pos h1]; exact h
    rw [if_neg h1]
    have hg := firstF_good (b.drop n) (fun x hx => hb x (List.mem_of_mem_drop hx)) h1
    have hg2 : ∀ r ∈ ba ++ [(firstF (b.drop n)).1], GoodRec r := by
      intro r hr
      rw [List.mem_append, List.mem_singleton] at hr
      rcases hr with hr | rfl
      · exact h2 r hr
      · exact hg
    by_cases h3 : (firstF (b.drop n)).2.1 = true
    · rw [if_pos h3]
      refine readF_good b hb f _ _ _ _ ?_ (by simp)
      intro x hx
      rw [List.mem_append, List.mem_singleton] at hx
      rcases hx with hx | rfl
      · exact h x hx
      · exact hg2
    · rw [if_neg h3]
      exact readF_good b hb f _ _ _ _ h hg2
theorem readF_len (b : List Int) (M : Nat) : ∀ (f : Nat) (bs : List (List (List Int))) (ba : List (List Int)) (used n : Nat), (∀ x ∈ bs, x.length ≤ M) → ba.length + f ≤ M →
    (readF b f bs ba used n).1.length ≤ bs.length + f ∧ ∀ x ∈ (readF b f bs ba used n).1, x.length ≤ M
  | 0, bs, ba, used, n, h, _ => ⟨Nat.le_refl _, h⟩
  | f + 1, bs, ba, used, n, h, hm => by
    unfold readF
    by_cases h1 : (firstF (b.drop n)).2.2 = 0
    · rw [if_pos h1]; exact ⟨by simp, h⟩
    rw [if_neg h1]
    by_cases h2 : (firstF (b.drop n)).2.1 = true
    · rw [if_pos h2]
      have := readF_len b M f (bs ++ [ba ++ [(firstF (b.drop n)).1]]) [] (n + (firstF (b.drop n)).2.2) (n + (firstF (b.drop n)).2.2) (fun x hx => by
        rw [List.mem_append, List.mem_singleton] at hx
        rcases hx with hx | rfl
        · exact h x hx
        · rw [List.length_append, List.length_singleton]; omega) (by simp; omega)
      rw [List.length_append, List.length_singleton] at this
      exact ⟨by omega, this.2⟩
    · rw [if_neg h2]
      have := readF_len b M f bs (ba ++ [(firstF (b.drop n)).1]) used (n + (firstF (b.drop n)).2.2) h (by rw [List.length_append, List.length_singleton]; omega)
      exact ⟨by omega, this.2⟩
def ReadEnd (w : World) (r : List S69 × Int × Int) (e : Ending) (w' : World) : Prop := ∃ v, e = .returned (.tuple #[v, .int .i64 r.2.1, .int .i64 r.2.2]) ∧ k69.R 69 w' w.heap.size (fun _ => True) v r.1 ∧ Below w.heap.size w w'
theorem rdL5_at' {l : List (List (List Int))} {i : Nat} (h : i < l.length) : rd_L5 l (i : Int) = l[i] := by
  simp [rd_L5, List.getD_eq_getElem?_getD, List.getElem?_eq_getElem h]
theorem rdL4_at' {l : List (List Int)} {i : Nat} (h : i < l.length) : rd_L4 l (i : Int) = l[i] := by
  simp [rd_L4, List.getD_eq_getElem?_getD, List.getElem?_eq_getElem h]
set_option maxRecDepth 100000 in
set_option maxHeartbeats 8000000 in
theorem store_read (A : Option Addr) (c : Nat) (b : List Int) (w : World) (hr : Kd.C (Kd.int .u8) w A b.length b) (hc : b.length ≤ c) (hl : b.length ≤ 1300) (hb : ∀ x ∈ b, 0 ≤ x ∧ x ≤ 255) :
    Calls Try.prog 59 #[.slice A b.length c] w (ReadEnd w (readS b)) := by
  have H56 := Aside0.mk (read_walk A c b w hr hc (by omega))
  have hgood := readF_good b hb (b.length + 1) [] [] 0 0 (by simp) (by simp)
  have hlen := readF_len b 2000 (b.length + 1) [] [] 0 0 (by simp) (by simp; omega)
  obtain ⟨q, hq⟩ : ∃ q, q = readF b (b.length + 1) [] [] 0 0 := ⟨_, rfl⟩
  have hres : Aside0 (readS b = match recF [] q.1 with | none => ([], 0, 4) | some t => (t, (q.2 : Int), 0)) := ⟨by unfold readS; rw [← hq]⟩
  rw [← hq] at H56 hgood hlen
  obtain ⟨bs, used⟩ := q
  simp only at H56 hgood hlen
  have HG := Aside0.mk hgood
  have HL := Aside0.mk hlen
  clear hgood hlen hq hr hb
  go_enter Try.func59, Try.ntmps59
  go_wp2_with (go_at_call 56; refine H56.out.mono ?_; rintro e w1 ⟨v, rfl, ho, hb⟩; obtain ⟨A5, c5, rfl⟩ := Kd.R_slice ho; have HO5 := Aside0.mk (Kd.R_reads' ho); have HB1 := Aside0.mk hb; clear ho hb)
  have hbl : bs.length ≤ 2000 := by have := HL.out.1; simp only [List.length_nil] at this; omega
  go_loopw [7, 22] (fun v7 v22 wr => ∃ (i : Nat) (t : List S69), v22 = .int .i64 i ∧ Aside0 (i ≤ bs.length) ∧ Aside0 (recF t (bs.drop i) = recF [] bs) ∧ Aside0 (t.length ≤ 40) ∧ Aside0 (k69.R 69 wr w1.heap.size (fun _ => True) v7 t) ∧ Aside0 (Below w1.heap.size w1 wr)) (fun _ v22 _ => bs.length - (intOf v22).toNat)
  case atStart => exact ⟨0, [], rfl, ⟨Nat.zero_le _⟩, ⟨rfl⟩, ⟨by simp⟩, ⟨Kd.R_nil _ _ _ _ _⟩, ⟨Below.refl _ _⟩⟩
  case round =>
    obtain ⟨i, t, rfl, hi, hs, htl, HT, HB⟩ := hrel
    have hil := hi.out
    by_cases hlt : i < bs.length
    · obtain ⟨ad, A0, c0, rfl, x0w, l0, g0⟩ := at_L5 HO5.out.2.2 (i : Int) (by omega) (by omega)
      have x0 := (HB.out.cell (World.block_lt_of_cell? w1 _ x0w)).trans x0w
      clear x0w
      rw [Int.toNat_natCast] at x0
      obtain ⟨m, hm⟩ : ∃ m, m = rd_L5 bs (i : Int) := ⟨_, rfl⟩
      rw [← hm] at x0 l0 g0
      have hst : Aside0 (recF t (m :: bs.drop (i + 1)) = recF [] bs) := ⟨by rw [hm, rdL5_at' hlt, ← List.drop_eq_getElem_cons hlt]; exact hs.out⟩
      have hmm : m ∈ bs := by rw [hm, rdL5_at' hlt]; exact List.getElem_mem _
      have HGm : Aside0 (∀ r ∈ m, GoodRec r) := ⟨HG.out m hmm⟩
      have hml : m.length ≤ 2000 := HL.out.2 m hmm
      have G0 := Aside0.mk g0
      obtain ⟨A7, c7, rfl⟩ := Kd.R_slice HT.out
      clear hm hmm g0 hs
      go_wp2
      go_loopw [10, 28] (fun v10 v28 ws => ∃ (j : Nat) (ch : List S69), v28 = .int .i64 j ∧ Aside0 (j ≤ m.length) ∧ Aside0 (rowsOf ch (m.drop j) = rowsOf [] m) ∧ Aside0 (ch.length ≤ j) ∧ Aside0 (k69.R 69 ws w1.heap.size (fun _ => True) v10 ch) ∧ Aside0 (k69.R 69 ws w1.heap.size (fun k => True ∧ some k ≠ v10.ownBlock) (.slice A7 t.length c7) t) ∧ Aside0 (Below w1.heap.size w1 ws)) (fun _ v28 _ => m.length - (intOf v28).toNat)
      case atStart => exact ⟨0, [], rfl, ⟨Nat.zero_le _⟩, ⟨rfl⟩, ⟨Nat.le_refl _⟩, ⟨Kd.R_nil _ _ _ _ _⟩, ⟨Kd.R_apart_nil HT.out⟩, HB⟩
      case round =>
        obtain ⟨j, ch, rfl, hj, hrs, hcl, HC1, HT1, HBs⟩ := hrel
        have hjl := hj.out
        by_cases hjt : j < m.length
        · obtain ⟨ad2, A1, c1, rfl, y0, l1, g1⟩ := at_L4 (Kd.C_below G0.out HBs.out) (j : Int) (by omega) (by omega)
          rw [Int.toNat_natCast] at y0
          obtain ⟨r, hrd⟩ : ∃ r, r = rd_L4 m (j : Int) := ⟨_, rfl⟩
          rw [← hrd] at y0 l1 g1
          have hrm : r ∈ m := by rw [hrd, rdL4_at' hjt]; exact List.getElem_mem _
          have hgr := HGm.out r hrm
          have hstep : Aside0 ((if (rowF r).2 = true then rowsOf (ch ++ [(rowF r).1]) (m.drop (j + 1)) else none) = rowsOf [] m) := ⟨by
            rw [← hrs.out, List.drop_eq_getElem_cons hjt, ← rdL4_at' hjt, ← hrd]
            rfl⟩
          obtain ⟨⟨⟨k, u⟩, ok⟩, hro⟩ : ∃ z, Aside0 (z = rowF r) := ⟨_, ⟨rfl⟩⟩
          rw [← hro.out] at hstep
          have hr0 : 0 ≤ rd r 0 ∧ rd r 0 ≤ 255 := by
            have h0 : 0 < r.length := by have := hgr.1; omega
            have : rd r ((0 : Nat) : Int) = r[0] := by unfold rd; rw [Int.toNat_natCast, List.getD_eq_getElem?_getD, List.getElem?_eq_getElem h0]; rfl
            rw [show (0 : Int) = ((0 : Nat) : Int) from rfl, this]
            exact hgr.2.2 _ (List.getElem_mem h0)
          have hcall : Aside0 (∀ W, Below wr.heap.size wr W → Calls Try.prog 76 #[.slice A1 r.length c1] W (RowEnd W (⟨k, u⟩, ok))) := ⟨fun W hW => hro.out ▸ row_walk A1 c1 r W (Kd.C_below g1 hW) l1 (by have := hgr.1; omega) hr0 (by have := hgr.2.1; omega)⟩
          clear hrd hrm hgr g1 hr0
          cases ok
          · have hno : Aside0 (readS b = ([], 0, 4)) := ⟨by
              have h1 := hstep.out
              rw [if_neg (by simp)] at h1
              have h2 := hst.out
              rw [recF_cons, ← h1] at h2
              rw [hres.out]
              simp only at h2 ⊢
              rw [← h2]⟩
            go_wp2_with (go_at_call 76; refine (hcall.out _ (Below.refl _ _)).mono ?_; rintro e w3 ⟨rfl, hbl⟩; have HB3 := Aside0.mk (below_step HBs.out hbl); clear hbl)
            go_ret3
            rw [hno.out]
            exact ⟨_, rfl, Kd.R_nil _ _ _ _ _, below_step HB1.out (below_alloc HB3.out _)⟩
          · have hst2 : Aside0 (rowsOf (ch ++ [⟨k, u⟩]) (m.drop (j + 1)) = rowsOf [] m) := ⟨by have := hstep.out; rw [if_pos rfl] at this; exact this⟩
            go_wp2_with (first | (go_at_call 76; refine (hcall.out _ (Below.refl _ _)).mono ?_; rintro e w3 ⟨rfl, hbl⟩; have HB3 := Aside0.mk (below_alloc (below_step HBs.out hbl) (.cells #[.string k, .string u] 69)); have HC3 := Aside0.mk (Kd.R_alloc (Kd.R_below HC1.out hbl) (.cells #[.string k, .string u] 69)); have HT3 := Aside0.mk (Kd.R_alloc (Kd.R_below HT1.out hbl) (.cells #[.string k, .string u] 69)); clear hbl) | ((with_reducible refine gate_builtin (b := .append) (xs := #[.tmp 39, .tmp 41]) rfl ?_); at_builtin; refine Kd.R_append k69 (w0 := w1) w1.heap.size rfl (.tmp 39) (.tmp 41) 24 69 (.agg #[.string ⟨#[]⟩, .string ⟨#[]⟩]) 32 rfl Try.underlying24 info69 rfl (by decide) (by omega) u10 ch ⟨k, u⟩ [.string k, .string u] (fun _ => True) (fun _ => False) rfl (by first | rfl | (go_simp; done) | (go_simp; rfl)) (k69_mkM _ _ _ ⟨k, u⟩) (fun _ h => h.elim) (fun _ _ => trivial) HC3.out HB3.out (below_size HB3.out) (by have := hcl.out; omega) ?_; intro v4 w4 ho hb hg hat; obtain ⟨A4, c4, rfl⟩ := Kd.R_slice ho; rw [List.length_append, List.length_singleton] at ho hat; have HC4 := Aside0.mk ho; have HB4 := Aside0.mk hb; have HT4 := Aside0.mk (Kd.R_after HT3.out hg hat); clear ho hb hg hat))
            go_roundw
            case rel => exact ⟨j + 1, ch ++ [⟨k, u⟩], by simp, ⟨hjt⟩, hst2, ⟨by have := hcl.out; rw [List.length_append, List.length_singleton]; omega⟩, HC4, HT4, HB4⟩
            case measure => simp [intOf]; omega
        · have hro : Aside0 (rowsOf [] m = some ch) := ⟨by have := hrs.out; rw [List.drop_of_length_le (by omega)] at this; exact this.symm⟩
          have hcl2 : ch.length ≤ 2000 := by have := hcl.out; omega
          have htl2 := htl.out
          obtain ⟨A10, c10, rfl⟩ := Kd.R_slice HC1.out
          obtain ⟨ys, hys⟩ : ∃ ys, Aside0 (ys = changedF t ch) := ⟨_, ⟨rfl⟩⟩
          have hch : Aside0 (Calls Try.prog 49 #[.slice A7 t.length c7, .slice A10 ch.length c10] wr fun e w' => ∃ v', e = .returned v' ∧ k69.R 69 w' wr.heap.size (fun _ => True) v' ys ∧ Below wr.heap.size wr w') := ⟨hys.out ▸ changed_walk A7 A10 c7 c10 t ch wr (Kd.R_reads' HT1.out).2.2 (Kd.R_reads' HT1.out).2.1 (Kd.R_reads' HC1.out).2.2 (Kd.R_reads' HC1.out).2.1 (by omega)⟩
          have hst2 : Aside0 ((if 40 < ys.length then none else recF ys (bs.drop (i + 1))) = recF [] bs) := ⟨by
            have h2 := hst.out
            rw [recF_cons, hro.out] at h2
            rw [hys.out]
            exact h2⟩
          by_cases h40 : 40 < ys.length
          · have hno : Aside0 (readS b = ([], 0, 4)) := ⟨by
              have h2 := hst2.out
              rw [if_pos h40] at h2
              rw [hres.out, ← h2]⟩
            go_wp2_with (go_at_call 49; refine hch.out.mono ?_; rintro e w3 ⟨v3, rfl, ho, hbl⟩; obtain ⟨A3, c3, rfl⟩ := Kd.R_slice ho; have HB3 := Aside0.mk (below_step HBs.out hbl); clear ho hbl)
            go_ret3
            rw [hno.out]
            exact ⟨_, rfl, Kd.R_nil _ _ _ _ _, below_step HB1.out HB3.out⟩
          · have hst3 : Aside0 (recF ys (bs.drop (i + 1)) = recF [] bs) := ⟨by have := hst2.out; rw [if_neg h40] at this; exact this⟩
            go_wp2_with (go_at_call 49; refine hch.out.mono ?_; rintro e w3 ⟨v3, rfl, ho, hbl⟩; obtain ⟨A3, c3, rfl⟩ := Kd.R_slice ho; have HO3 := Aside0.mk (Kd.R_lower ho HBs.out.size); have HB3 := Aside0.mk (below_step HBs.out hbl); clear ho hbl)
            go_roundw
            case rel => exact ⟨i + 1, ys, by simp, ⟨hlt⟩, hst3, ⟨by omega⟩, HO3, HB3⟩
            case measure => simp [intOf]; omega
    · have hyes : Aside0 (readS b = (t, (used : Int), 0)) := ⟨by
        have h2 := hs.out
        rw [List.drop_of_length_le (by omega)] at h2
        rw [recF_nil] at h2
        rw [hres.out, ← h2]⟩
      go_wp2
      go_ret3
      rw [hyes.out]
      exact ⟨_, rfl, Kd.R_lower HT.out HB1.out.size, below_step HB1.out HB.out⟩
def recoverF (b : List Int) : List S69 × Int × Int := if 1200 < b.length then ([], 0, 1) else readS b
def bytesOk (b : List Int) : Bool := b.all fun x => decide (0 ≤ x ∧ x ≤ 255)
def store_Recover.f (b : List Int) : Option (List S69 × Int × Int) := if bytesOk b = true then some (recoverF b) else none
theorem bytesOk_of {b : List Int} (h : bytesOk b = true) : ∀ x ∈ b, 0 ≤ x ∧ x ≤ 255 := fun x hx => by
  have := List.all_eq_true.1 h x hx
  simpa using this
theorem of_bytesOk {b : List Int} (h : ∀ x ∈ b, 0 ≤ x ∧ x ≤ 255) : bytesOk b = true := List.all_eq_true.2 fun x hx => by
  have := h x hx
  simpa using this
set_option maxRecDepth 100000 in
set_option maxHeartbeats 8000000 in
theorem recover_walk (A : Option Addr) (c : Nat) (b : List Int) (w : World) (hr : Kd.C (Kd.int .u8) w A b.length b) (hc : b.length ≤ c) (hb : ∀ x ∈ b, 0 ≤ x ∧ x ≤ 255) :
    Calls Try.prog 36 #[.slice A b.length c] w (ReadEnd w (recoverF b)) := by
  by_cases h : 1200 < b.length
  · have e : Aside0 (recoverF b = ([], 0, 1)) := ⟨by unfold recoverF; rw [if_pos h]⟩
    go_enter Try.func36, Try.ntmps36
    go_wp2
    go_ret3
    rw [e.out]
    exact ⟨_, rfl, Kd.R_nil _ _ _ _ _, Below.refl _ _⟩
  · have e : Aside0 (recoverF b = readS b) := ⟨by unfold recoverF; rw [if_neg h]⟩
    have H := Aside0.mk (store_read A c b w hr hc (by omega) hb)
    clear hr hb
    go_enter Try.func36, Try.ntmps36
    go_wp2_with (go_at_call 59; refine H.out.mono ?_; rintro e w1 ⟨v, rfl, ho, hb⟩; have HO := Aside0.mk ho; have HB := Aside0.mk hb; clear ho hb)
    go_ret3
    rw [e.out]
    exact ⟨_, rfl, HO.out, HB.out⟩
theorem store_Recover.calls (A0 : Option Addr) (c0 : Nat) (l0 : List Int) (r1 : List S69) (r2 : Int) (r3 : Int) (w : World) (hr0 : Kd.C (Kd.int .u8) w A0 l0.length l0) (hc0 : l0.length ≤ c0) (h : store_Recover.f l0 = some (r1, r2, r3)) :
    Calls Try.prog 36 #[.slice A0 l0.length c0] w fun e w' => ∃ v0_ : Value, e = .returned (.tuple #[v0_, .int .i64 r2, .int .i64 r3]) ∧ k69.R 69 w' w.heap.size (fun _ => True) v0_ r1 ∧ Below w.heap.size w w' := by
  unfold store_Recover.f at h
  by_cases hb : bytesOk l0 = true
  · rw [if_pos hb] at h
    have h' := Option.some.inj h
    have := recover_walk A0 c0 l0 w hr0 hc0 (bytesOk_of hb)
    rw [h'] at this
    exact this
  · rw [if_neg hb] at h; cases h
end Go.Proofs.Ytnjidfgjldkkcaa.Q
/- Words on 'Ev' and on whole numbers that wrap: for the plain laws of this seat. No program. -/
namespace Go.Proofs.Ytnjidfgjldkkcaa.Plain
open Go.RowKit Go.Proofs.YtnjidfgjldkkcaaW.PrintWords
theorem Ev.pos {α : Type} {c : Prop} [Decidable c] {g f : Nat → Option α} {r : α} (hc : c) (h : Ev g r) : Ev (fun k => if c then g k else f k) r :=
  h.congr fun _ => if_pos hc
theorem Ev.neg {α : Type} {c : Prop} [Decidable c] {g f : Nat → Option α} {r : α} (hc : ¬ c) (h : Ev f r) : Ev (fun k => if c then g k else f k) r :=
  h.congr fun _ => if_neg hc
theorem Ev.to {α : Type} {g : Nat → Option α} {r q : α} (h : Ev g r) (e : r = q) : Ev g q := e ▸ h
theorem Ev.lift {α : Type} {o : Option α} {r : α} (h : o = some r) : Ev (fun _ => o) r := ⟨0, fun _ _ => h⟩
theorem wrap_in {n : Int} (h0 : -9223372036854775808 ≤ n) (h1 : n ≤ 9223372036854775807) : wrap64 n = n := by unfold wrap64; omega
theorem wrap_cast {n : Nat} (h1 : n ≤ 9223372036854775807) : wrap64 (n : Int) = n := wrap_in (by omega) (by omega)
theorem wrap_succ {i : Nat} (h1 : i < 9223372036854775807) : wrap64 ((i : Int) + 1) = ((i + 1 : Nat) : Int) := by rw [wrap_in (by omega) (by omega)]; rfl
theorem tmod_cast (a b : Nat) : Int.tmod (a : Int) (b : Int) = ((a % b : Nat) : Int) := by
  rw [Int.tmod_eq_emod_of_nonneg (by omega)]; exact (Int.natCast_emod a b).symm
theorem tdiv_cast (a b : Nat) : Int.tdiv (a : Int) (b : Int) = ((a / b : Nat) : Int) := by
  rw [Int.tdiv_eq_ediv_of_nonneg (by omega)]; exact (Int.natCast_ediv a b).symm
theorem getD_at {α : Type} {l : List α} {z : α} {i : Nat} (h : i < l.length) : l.getD ((i : Int).toNat) z = l[i] := by
  rw [Int.toNat_natCast, List.getD_eq_getElem?_getD, List.getElem?_eq_getElem h]; rfl
theorem rd_at {l : List Int} {i : Nat} (h : i < l.length) : rd l (i : Int) = l[i] := getD_at h
theorem empty_iff {s : ByteArray} : s.toList = [] ↔ s.size = 0 := by
  rw [Go.ByteArray.toList_eq, List.eq_nil_iff_length_eq_zero, Array.length_toList]; rfl
end Go.Proofs.Ytnjidfgjldkkcaa.Plain
/- wal.frame, walked. -/
namespace Go.Proofs.Ytnjidfgjldkkcaa.Q
open Go.RowKit Go.Proofs.YtnjidfgjldkkcaaW.PrintWords Go.Proofs.YtnjidfgjldkkcaaW.PrintLast Go.Proofs.YtnjidfgjldkkcaaW.PrintMore
def flagOf (b : Bool) : Int := if b then 1 else 0
def frameB (record : List Int) (last : Bool) : List Int := [(record.length : Int) % 256, flagOf last] ++ record
def frameF (record : List Int) (last : Bool) : List Int := frameB record last ++ [(sumsF 0 0 (frameB record last)).1 % 256, (sumsF 0 0 (frameB record last)).2 % 256]
theorem C_pair (t : TypeId) (w : World) (x y : Int) : Kd.C (Kd.int .u8) (w.alloc (.cells #[.int .u8 x, .int .u8 y] t)) (some ⟨w.heap.size, 0, none⟩) 2 [x, y] := by
  have BK : (w.alloc (.cells #[.int .u8 x, .int .u8 y] t)).heap[w.heap.size]? = some (.cells #[.int .u8 x, .int .u8 y] t (0, 0)) := blk_new _ _
  refine ⟨rfl, by omega, fun _ => ⟨⟨w.heap.size, 0, none⟩, rfl, fun j p hj => ?_⟩⟩
  match j, hj with
  | 0, hj =>
    obtain rfl : x = p := by simpa using hj
    refine ⟨[.int .u8 x], rfl, rfl, fun i u hi => ?_⟩
    match i, hi with
    | 0, hi =>
      obtain rfl : _ = u := by simpa using hi
      exact (blk_cell BK 0).trans rfl
    | i + 1, hi => simp at hi
  | 1, hj =>
    obtain rfl : y = p := by simpa using hj
    refine ⟨[.int .u8 y], rfl, rfl, fun i u hi => ?_⟩
    match i, hi with
    | 0, hi =>
      obtain rfl : _ = u := by simpa using hi
      exact (blk_cell BK 1).trans rfl
    | i + 1, hi => simp at hi
  | j + 2, hj => simp at hj
set_option maxRecDepth 100000 in
set_option maxHeartbeats 4000000 in
theorem frame_walk (w0 : World) (v0 : Value) (out : List Int) (Ar : Option Addr) (cr : Nat) (record : List Int) (last : Bool) (w : World) (hO : Kd.R (Kd.int .u8) 5 w w0.heap.size (fun _ => True) v0 out)
    (hB : Below w0.heap.size w0 w) (hr : Kd.C (Kd.int .u8) w0 Ar record.length record) (hc : record.length ≤ cr) (hl : out.length + record.length ≤ 100000000) :
    Calls Try.prog 73 #[v0, .slice Ar record.length cr, .bool last] w fun e w' => ∃ v1, e = .returned v1 ∧ Kd.R (Kd.int .u8) 5 w' w0.heap.size (fun _ => True) v1 (out ++ frameF record last) ∧ Below w0.heap.size w0 w' := by
  obtain ⟨A0, c0, rfl, hc0, _⟩ := Kd.R_reads hO
  have HO := Aside0.mk hO
  have HB := Aside0.mk hB
  have HR := Aside0.mk hr
  have HC := Aside0.mk hc
  have HC0 := Aside0.mk hc0
  have HL := Aside0.mk hl
  clear hO hB hr hc hc0 hl
  go_enter Try.func73, Try.ntmps73
  have HO1 := Aside0.mk (Kd.R_alloc HO.out (.cells #[.int .u8 ((record.length : Int) % 256), .int .u8 (flagOf last)] 5))
  have HB1 := Aside0.mk (below_alloc HB.out (.cells #[.int .u8 ((record.length : Int) % 256), .int .u8 (flagOf last)] 5))
  have HP := Aside0.mk (C_pair 5 w ((record.length : Int) % 256) (flagOf last))
  have HF : Aside0 (frameB record last = [(record.length : Int) % 256, flagOf last] ++ record) := ⟨rfl⟩
  have HFF : Aside0 (frameF record last = frameB record last ++ [(sumsF 0 0 (frameB record last)).1 % 256, (sumsF 0 0 (frameB record last)).2 % 256]) := ⟨rfl⟩
  clear HO
  obtain ⟨fl, hfl⟩ : ∃ fl, Aside0 (fl = flagOf last) := ⟨_, ⟨rfl⟩⟩
  rw [← hfl.out] at HO1 HB1 HP HF
  have hcut : Aside0 (∀ (W : World) (v : Value), Kd.R (Kd.int .u8) 5 W w0.heap.size (fun _ => True) v (out ++ frameB record last) → ∃ A n c A', v = .slice A n c ∧ n = out.length + (frameB record last).length ∧ n ≤ c ∧ A' = (if c = out.length then A else A.map (·.add out.length)) ∧ Kd.C (Kd.int .u8) W A' (frameB record last).length (frameB record last)) := ⟨by
    intro W v h
    obtain ⟨A, c, rfl, hc, hC⟩ := Kd.R_reads h
    refine ⟨A, _, c, _, rfl, by rw [List.length_append], hc, rfl, ?_⟩
    have := Kd.C_drop (m := out.length) hC (by rw [List.length_append]; omega) hc
    rw [List.drop_left, show (Kd.int .u8).sz = 1 from rfl, Nat.mul_one] at this
    exact this⟩
  have hLB : Aside0 ((frameB record last).length = record.length + 2) := ⟨by unfold frameB; simp⟩
  cases last
  · have hfl0 : fl = 0 := hfl.out
    clear hfl
    subst hfl0
    go_wp2_with (first | ((with_reducible refine gate_builtin (b := .append) (xs := #[.tmp 13, .tmp 18]) rfl ?_); at_builtin; refine Kd.R_append_rows (Kd.int .u8) (w0 := w0) w0.heap.size rfl (.tmp 13) (.tmp 18) 36 5 (.int .u8 0) 1 rfl Try.underlying36 info5 rfl (by decide) (by omega) _ out [(record.length : Int) % 256, 0] (some ⟨w.heap.size, 0, none⟩) 2 2 (fun _ => True) (fun _ => False) rfl rfl HO1.out HP.out (fun x cs h => h) (fun _ h => h.elim) (fun _ _ => trivial) HB1.out (below_size HB1.out) (by have := HL.out; omega) ?_; intro v2 w2 ho hb hg hat; clear hg hat; have HO2 := Aside0.mk ho; have HB2 := Aside0.mk hb; clear ho hb) | ((with_reducible refine gate_builtin (b := .append) (xs := #[.tmp 19, .tmp 20]) rfl ?_); at_builtin; refine Kd.R_append_rows (Kd.int .u8) (w0 := w0) w0.heap.size rfl (.tmp 19) (.tmp 20) 36 5 (.int .u8 0) 1 rfl Try.underlying36 info5 rfl (by decide) (by omega) _ (out ++ [(record.length : Int) % 256, 0]) record Ar record.length cr (fun _ => True) (fun _ => False) rfl rfl HO2.out (Kd.C_below HR.out HB2.out) (fun x cs h => h) (fun _ h => h.elim) (fun _ _ => trivial) HB2.out (below_size HB2.out) (by have := HL.out; simp only [List.length_append, List.length_cons, List.length_nil]; omega) ?_; intro v3 w3 ho hb hg hat; clear hg hat; have HO3 := Aside0.mk ho; have HB3 := Aside0.mk hb; clear ho hb; rw [List.append_assoc, ← HF.out] at HO3; obtain ⟨A3, n3, c3, A3d, rfl, hn3, hnc3, hA3, hC3⟩ := hcut.out _ _ HO3.out; have hne : ¬ c3 = out.length := (by have := hLB.out; omega); rw [if_neg hne] at hA3; subst hA3; subst hn3; have HS3 := Aside0.mk hC3; have HN3 := Aside0.mk hnc3; have HX3 := Aside0.mk hne; clear hC3 hnc3) | (go_at_call 86; refine (sums_walk _ (c3 - out.length) (frameB record false) _ HS3.out (by have := HN3.out; have := hLB.out; omega) (by have := HL.out; have := hLB.out; omega)).mono ?_; rintro e w4 ⟨rfl, hb4⟩; have HO4 := Aside0.mk (Kd.R_alloc (Kd.R_below HO3.out hb4) (.cells #[.int .u8 ((sumsF 0 0 (frameB record false)).1 % 256), .int .u8 ((sumsF 0 0 (frameB record false)).2 % 256)] 124)); have HB4 := Aside0.mk (below_alloc (below_step HB3.out hb4) (.cells #[.int .u8 ((sumsF 0 0 (frameB record false)).1 % 256), .int .u8 ((sumsF 0 0 (frameB record false)).2 % 256)] 124)); have HP4 := Aside0.mk (C_pair 124 w4 ((sumsF 0 0 (frameB record false)).1 % 256) ((sumsF 0 0 (frameB record false)).2 % 256)); clear hb4) | ((with_reducible refine gate_builtin (b := .append) (xs := #[.tmp 26, .tmp 27]) rfl ?_); at_builtin; refine Kd.R_append_rows (Kd.int .u8) (w0 := w0) w0.heap.size rfl (.tmp 26) (.tmp 27) 36 5 (.int .u8 0) 1 rfl Try.underlying36 info5 rfl (by decide) (by omega) _ (out ++ frameB record false) [(sumsF 0 0 (frameB record false)).1 % 256, (sumsF 0 0 (frameB record false)).2 % 256] (some ⟨w4.heap.size, 0, none⟩) 2 2 (fun _ => True) (fun _ => False) rfl rfl HO4.out HP4.out (fun x cs h => h) (fun _ h => h.elim) (fun _ _ => trivial) HB4.out (below_size HB4.out) (by have := HL.out; have := hLB.out; simp only [List.length_append]; omega) ?_; intro v5 w5 ho hb hg hat; clear hg hat; rw [List.append_assoc, ← HFF.out] at ho; have HO5 := Aside0.mk ho; have HB5 := Aside0.mk hb; clear ho hb))
    go_ret
    exact ⟨v5, rfl, HO5.out, HB5.out⟩
  · have hfl0 : fl = 1 := hfl.out
    clear hfl
    subst hfl0
    go_wp2_with (first | ((with_reducible refine gate_builtin (b := .append) (xs := #[.tmp 13, .tmp 18]) rfl ?_); at_builtin; refine Kd.R_append_rows (Kd.int .u8) (w0 := w0) w0.heap.size rfl (.tmp 13) (.tmp 18) 36 5 (.int .u8 0) 1 rfl Try.underlying36 info5 rfl (by decide) (by omega) _ out [(record.length : Int) % 256, 1] (some ⟨w.heap.size, 0, none⟩) 2 2 (fun _ => True) (fun _ => False) rfl rfl HO1.out HP.out (fun x cs h => h) (fun _ h => h.elim) (fun _ _ => trivial) HB1.out (below_size HB1.out) (by have := HL.out; omega) ?_; intro v2 w2 ho hb hg hat; clear hg hat; have HO2 := Aside0.mk ho; have HB2 := Aside0.mk hb; clear ho hb) | ((with_reducible refine gate_builtin (b := .append) (xs := #[.tmp 19, .tmp 20]) rfl ?_); at_builtin; refine Kd.R_append_rows (Kd.int .u8) (w0 := w0) w0.heap.size rfl (.tmp 19) (.tmp 20) 36 5 (.int .u8 0) 1 rfl Try.underlying36 info5 rfl (by decide) (by omega) _ (out ++ [(record.length : Int) % 256, 1]) record Ar record.length cr (fun _ => True) (fun _ => False) rfl rfl HO2.out (Kd.C_below HR.out HB2.out) (fun x cs h => h) (fun _ h => h.elim) (fun _ _ => trivial) HB2.out (below_size HB2.out) (by have := HL.out; simp only [List.length_append, List.length_cons, List.length_nil]; omega) ?_; intro v3 w3 ho hb hg hat; clear hg hat; have HO3 := Aside0.mk ho; have HB3 := Aside0.mk hb; clear ho hb; rw [List.append_assoc, ← HF.out] at HO3; obtain ⟨A3, n3, c3, A3d, rfl, hn3, hnc3, hA3, hC3⟩ := hcut.out _ _ HO3.out; have hne : ¬ c3 = out.length := (by have := hLB.out; omega); rw [if_neg hne] at hA3; subst hA3; subst hn3; have HS3 := Aside0.mk hC3; have HN3 := Aside0.mk hnc3; have HX3 := Aside0.mk hne; clear hC3 hnc3) | (go_at_call 86; refine (sums_walk _ (c3 - out.length) (frameB record true) _ HS3.out (by have := HN3.out; have := hLB.out; omega) (by have := HL.out; have := hLB.out; omega)).mono ?_; rintro e w4 ⟨rfl, hb4⟩; have HO4 := Aside0.mk (Kd.R_alloc (Kd.R_below HO3.out hb4) (.cells #[.int .u8 ((sumsF 0 0 (frameB record true)).1 % 256), .int .u8 ((sumsF 0 0 (frameB record true)).2 % 256)] 124)); have HB4 := Aside0.mk (below_alloc (below_step HB3.out hb4) (.cells #[.int .u8 ((sumsF 0 0 (frameB record true)).1 % 256), .int .u8 ((sumsF 0 0 (frameB record true)).2 % 256)] 124)); have HP4 := Aside0.mk (C_pair 124 w4 ((sumsF 0 0 (frameB record true)).1 % 256) ((sumsF 0 0 (frameB record true)).2 % 256)); clear hb4) | ((with_reducible refine gate_builtin (b := .append) (xs := #[.tmp 26, .tmp 27]) rfl ?_); at_builtin; refine Kd.R_append_rows (Kd.int .u8) (w0 := w0) w0.heap.size rfl (.tmp 26) (.tmp 27) 36 5 (.int .u8 0) 1 rfl Try.underlying36 info5 rfl (by decide) (by omega) _ (out ++ frameB record true) [(sumsF 0 0 (frameB record true)).1 % 256, (sumsF 0 0 (frameB record true)).2 % 256] (some ⟨w4.heap.size, 0, none⟩) 2 2 (fun _ => True) (fun _ => False) rfl rfl HO4.out HP4.out (fun x cs h => h) (fun _ h => h.elim) (fun _ _ => trivial) HB4.out (below_size HB4.out) (by have := HL.out; have := hLB.out; simp only [List.length_append]; omega) ?_; intro v5 w5 ho hb hg hat; clear hg hat; rw [List.append_assoc, ← HFF.out] at ho; have HO5 := Aside0.mk ho; have HB5 := Aside0.mk hb; clear ho hb))
    go_ret
    exact ⟨v5, rfl, HO5.out, HB5.out⟩
end Go.Proofs.Ytnjidfgjldkkcaa.Q
/- wal.Of, slices.ContainsFunc at batches, wal.Pack, walked. -/
namespace Go.Proofs.Ytnjidfgjldkkcaa.Q
open Go.RowKit Go.Proofs.YtnjidfgjldkkcaaW.PrintWords Go.Proofs.YtnjidfgjldkkcaaW.PrintLast Go.Proofs.YtnjidfgjldkkcaaW.PrintMore
def packF : List (List Int) → List Int
  | [] => []
  | r :: t => frameF r t.isEmpty ++ packF t
theorem rdL1_at {l : List (List Int)} {i : Nat} (h : i < l.length) : rd_L4 l (i : Int) = l[i] := by
  simp [rd_L4, List.getD_eq_getElem?_getD, List.getElem?_eq_getElem h]
theorem packF_drop (l : List (List Int)) (i : Nat) (h : i < l.length) : packF (l.drop i) = frameF (rd_L4 l (i : Int)) ((i : Int) == (l.length : Int) - 1) ++ packF (l.drop (i + 1)) := by
  rw [List.drop_eq_getElem_cons h, rdL1_at h]
  show frameF l[i] (List.drop (i + 1) l).isEmpty ++ packF (List.drop (i + 1) l) = _
  congr 2
  rw [Bool.eq_iff_iff, List.isEmpty_iff_length_eq_zero, List.length_drop, beq_iff_eq]
  omega
theorem frameF_length (r : List Int) (b : Bool) : (frameF r b).length = r.length + 4 := by
  unfold frameF frameB; simp
set_option maxRecDepth 100000 in
set_option maxHeartbeats 4000000 in
theorem of_walk (A : Option Addr) (c : Nat) (l : List (List Int)) (w : World) (hr : Kd.C (Kd.slice 5 (Kd.int .u8)) w A l.length l) (hc : l.length ≤ c) (hl : l.length ≤ 100000) (hl2 : ∀ r ∈ l, r.length ≤ 100) :
    Calls Try.prog 54 #[.slice A l.length c] w fun e w' => ∃ v1, e = .returned v1 ∧ Kd.R (Kd.int .u8) 5 w' w.heap.size (fun _ => True) v1 (packF l) ∧ Below w.heap.size w w' := by
  have HR := Aside0.mk hr
  have HC := Aside0.mk hc
  have HL2 := Aside0.mk hl2
  clear hr hc hl2
  go_enter Try.func54, Try.ntmps54
  go_wp2
  go_loopw [3, 8] (fun v vi wr => ∃ (i : Nat) (out : List Int), vi = .int .i64 i ∧ Aside0 (i ≤ l.length) ∧ Aside0 (out ++ packF (l.drop i) = packF l) ∧ Aside0 (out.length ≤ i * 104) ∧ Aside0 (Kd.R (Kd.int .u8) 5 wr w.heap.size (fun _ => True) v out) ∧ Aside0 (Below w.heap.size w wr)) (fun _ vi _ => l.length - (intOf vi).toNat)
  case atStart => exact ⟨0, [], rfl, ⟨Nat.zero_le _⟩, ⟨rfl⟩, ⟨by simp⟩, ⟨Kd.R_nil _ _ _ _ _⟩, ⟨Below.refl _ _⟩⟩
  case round =>
    obtain ⟨i, out, rfl, hi, hs, hol, HO, HB⟩ := hrel
    have hi' := hi.out
    by_cases hlt : i < l.length
    · obtain ⟨ad, A0, c0, rfl, hx, hc0, hC0⟩ := at_L4 HR.out (i : Int) (by omega) (by omega)
      have hx' := (HB.out.cell (World.block_lt_of_cell? w _ hx)).trans hx
      have hst := Aside0.mk ((congrArg (out ++ ·) (packF_drop l i hlt).symm).trans hs.out)
      have hrl : Aside0 ((rd_L4 l (i : Int)).length ≤ 100) := ⟨by rw [rdL1_at hlt]; exact HL2.out _ (List.getElem_mem hlt)⟩
      clear hx hs
      generalize rd_L4 l (i : Int) = r at *
      simp only [Int.toNat_natCast] at hx'
      go_wp2_with (go_at_call 73; refine (frame_walk w _ out A0 c0 r ((i : Int) == (l.length : Int) - 1) wr HO.out HB.out hC0 hc0 (by have := hol.out; have := hrl.out; omega)).mono ?_; rintro e w1 ⟨v1, rfl, ho, hb⟩; have HO1 := Aside0.mk ho; have HB1 := Aside0.mk hb; clear ho hb)
      go_roundw
      case rel => exact ⟨i + 1, _, by go_num, ⟨by omega⟩, ⟨by rw [List.append_assoc]; exact hst.out⟩, ⟨by have := hol.out; have := hrl.out; rw [List.length_append, frameF_length]; omega⟩, HO1, HB1⟩
      case measure => simp [intOf]; omega
    · go_wp2
      go_ret
      have e := hs.out
      rw [List.drop_of_length_le (by omega)] at e
      rw [← e, packF, List.append_nil]
      exact ⟨_, rfl, HO.out, HB.out⟩

/-- The place of the first that p picks; -1: none. -/
def idxF {α : Type} (p : α → Bool) : List α → Int → Int
  | [], _ => -1
  | r :: t, i => if p r = true then i else idxF p t (i + 1)
theorem idxF_any {α : Type} (p : α → Bool) : ∀ (l : List α) (i : Int), 0 ≤ i → (decide (0 ≤ idxF p l i) = l.any p)
  | [], _, _ => by simp [idxF]
  | r :: t, i, h => by
    have ih := idxF_any p t (i + 1) (by omega)
    unfold idxF
    by_cases hp : p r = true
    · simp [hp, h]
    · simp [hp, ih]
def oddF (r : List Int) : Bool := !(decide (1 ≤ r.length) && decide (r.length ≤ 60))
theorem oddF_f (r : List Int) : wal_Pack_1.f r = some (oddF r) := by
  unfold wal_Pack_1.f wal_May.f oddF
  by_cases h : (r.length : Int) ≥ 1
  · rw [if_pos h, Option.bind_some]
    have h1 : 1 ≤ r.length := by omega
    by_cases h2 : r.length ≤ 60
    · have : (r.length : Int) ≤ 60 := by omega
      simp [h1, h2, this]
    · have : ¬ (r.length : Int) ≤ 60 := by omega
      simp [h1, h2, this]
  · rw [if_neg h, Option.bind_some]
    have h1 : ¬ 1 ≤ r.length := by omega
    simp [h1]
set_option maxRecDepth 100000 in
set_option maxHeartbeats 4000000 in
theorem indexB_walk (A : Option Addr) (c : Nat) (l : List (List Int)) (w : World) (hr : Kd.C (Kd.slice 5 (Kd.int .u8)) w A l.length l) (hc : l.length ≤ c) :
    Calls Try.prog 72 #[.slice A l.length c, .func (Fn.func 51) #[] #[]] w fun e w' => e = .returned (.int .i64 (idxF oddF l 0)) ∧ Below w.heap.size w w' := by
  have HR := Aside0.mk hr
  have HC := Aside0.mk hc
  have HM := Aside0.mk (Kd.C_max hr)
  clear hr hc
  go_enter Try.func72, Try.ntmps72
  go_wp2
  go_loopw [8] (fun vi wr => ∃ (i : Nat), vi = .int .i64 i ∧ Aside0 (i ≤ l.length) ∧ Aside0 (idxF oddF (l.drop i) i = idxF oddF l 0) ∧ Aside0 (Below w.heap.size w wr)) (fun vi _ => l.length - (intOf vi).toNat)
  case atStart => exact ⟨0, rfl, ⟨Nat.zero_le _⟩, ⟨rfl⟩, ⟨Below.refl _ _⟩⟩
  case round =>
    obtain ⟨i, rfl, hi, hs, HB⟩ := hrel
    have hi' := hi.out
    have hm' := HM.out
    by_cases hlt : i < l.length
    · obtain ⟨ad, A0, c0, rfl, hx, hc0, hC0⟩ := at_L4 (Kd.C_below HR.out HB.out) (i : Int) (by omega) (by omega)
      have hst : Aside0 ((if oddF (rd_L4 l (i : Int)) = true then (i : Int) else idxF oddF (l.drop (i + 1)) ((i : Int) + 1)) = idxF oddF l 0) := ⟨by
        have := hs.out
        rw [List.drop_eq_getElem_cons hlt] at this
        rw [rdL1_at hlt]
        exact this⟩
      clear hs
      generalize rd_L4 l (i : Int) = r at *
      simp only [Int.toNat_natCast] at hx
      have hC0' := Aside0.mk hC0
      have hc0' := Aside0.mk hc0
      clear hC0 hc0
      go_wp2_with (go_at_call 51; refine (wal_Pack_1.calls A0 c0 r (oddF r) _ hC0'.out hc0'.out (oddF_f r)).mono ?_; rintro e w1 ⟨rfl, hb⟩)
      · have HB1 := Aside0.mk (below_step HB.out hb.below)
        have hodd : oddF r = true := by assumption
        go_ret
        have e := hst.out
        rw [if_pos hodd] at e
        rw [← e]
        exact ⟨rfl, HB1.out⟩
      · have HB1 := Aside0.mk (below_step HB.out hb.below)
        have hodd : oddF r = false := by assumption
        have e : Aside0 (idxF oddF (l.drop (i + 1)) ((i : Int) + 1) = idxF oddF l 0) := ⟨by have := hst.out; rw [if_neg (by rw [hodd]; simp)] at this; exact this⟩
        go_roundw
        case rel => exact ⟨i + 1, by go_num, ⟨by omega⟩, e, HB1⟩
        case measure => simp [intOf]; omega
    · go_wp2
      go_ret
      have e := hs.out
      rw [List.drop_of_length_le (by omega)] at e
      rw [← e]
      exact ⟨rfl, HB.out⟩
set_option maxRecDepth 100000 in
set_option maxHeartbeats 4000000 in
theorem containsB_walk (A : Option Addr) (c : Nat) (l : List (List Int)) (w : World) (hr : Kd.C (Kd.slice 5 (Kd.int .u8)) w A l.length l) (hc : l.length ≤ c) :
    Calls Try.prog 53 #[.slice A l.length c, .func (Fn.func 51) #[] #[]] w fun e w' => e = .returned (.bool (l.any oddF)) ∧ Below w.heap.size w w' := by
  go_enter Try.func53, Try.ntmps53
  go_wp2_with (go_at_call 72; refine (indexB_walk A c l _ hr hc).mono ?_; rintro e w1 ⟨rfl, hb⟩)
  go_ret
  rw [← idxF_any oddF l 0 (Int.le_refl 0)]
  exact ⟨rfl, hb⟩
def packOdd (l : List (List Int)) : Bool := decide (l.length < 1) || decide (60 < l.length) || l.any oddF
def wal_Pack.f (l : List (List Int)) : Option (List Int × Int) := some (if packOdd l = true then ([], 1) else (packF l, 0))
set_option maxRecDepth 100000 in
set_option maxHeartbeats 4000000 in
theorem wal_Pack.calls (A0 : Option Addr) (c0 : Nat) (l0 : List (List Int)) (r1 : List Int) (r2 : Int) (w : World) (hr0 : Kd.C (Kd.slice 5 (Kd.int .u8)) w A0 l0.length l0) (hc0 : l0.length ≤ c0) (h : wal_Pack.f l0 = some (r1, r2)) :
    Calls Try.prog 27 #[.slice A0 l0.length c0] w fun e w' => ∃ v0_ : Value, e = .returned (.tuple #[v0_, .int .i64 r2]) ∧ Kd.R (Kd.int .u8) 5 w' w.heap.size (fun _ => True) v0_ r1 ∧ Below w.heap.size w w' := by
  replace h := Option.some.inj h
  have HR := Aside0.mk hr0
  have HC := Aside0.mk hc0
  clear hr0 hc0
  go_enter Try.func27, Try.ntmps27
  by_cases h1 : l0.length < 1
  · have ho : packOdd l0 = true := by unfold packOdd; rw [decide_eq_true h1]; rfl
    rw [if_pos ho] at h
    obtain ⟨rfl, rfl⟩ := Prod.mk.inj h
    clear h
    go_wp2
    go_ret2
    exact ⟨_, rfl, Kd.R_nil _ _ _ _ _, Below.refl _ _⟩
  by_cases h2 : 60 < l0.length
  · have ho : packOdd l0 = true := by unfold packOdd; rw [decide_eq_true h2]; simp
    rw [if_pos ho] at h
    obtain ⟨rfl, rfl⟩ := Prod.mk.inj h
    clear h
    go_wp2
    go_ret2
    exact ⟨_, rfl, Kd.R_nil _ _ _ _ _, Below.refl _ _⟩
  have hp : packOdd l0 = l0.any oddF := by unfold packOdd; rw [decide_eq_false h1, decide_eq_false h2]; simp
  rw [hp] at h
  by_cases h3 : l0.any oddF = true
  · rw [if_pos h3] at h
    obtain ⟨rfl, rfl⟩ := Prod.mk.inj h
    clear h
    go_wp2_with (go_at_call 53; refine (containsB_walk A0 c0 l0 _ HR.out HC.out).mono ?_; rintro e w1 ⟨rfl, hb⟩; rw [h3])
    go_ret2
    exact ⟨_, rfl, Kd.R_nil _ _ _ _ _, hb⟩
  · rw [if_neg h3] at h
    obtain ⟨rfl, rfl⟩ := Prod.mk.inj h
    clear h
    replace h3 : l0.any oddF = false := Bool.eq_false_iff.2 h3
    have hsz : Aside0 (∀ r ∈ l0, r.length ≤ 100) := ⟨fun r hr => by
      have := List.any_eq_false.1 h3 r hr
      unfold oddF at this
      simp at this
      omega⟩
    go_wp2_with (first | (go_at_call 53; refine (containsB_walk A0 c0 l0 _ HR.out HC.out).mono ?_; rintro e w1 ⟨rfl, hb⟩; rw [h3]; have HB := Aside0.mk hb; clear hb) | (go_at_call 54; refine (of_walk A0 c0 l0 _ (Kd.C_below HR.out HB.out) HC.out (by omega) hsz.out).mono ?_; rintro e w2 ⟨v1, rfl, ho, hb⟩; have HO := Aside0.mk (Kd.R_lower ho HB.out.size); have HB2 := Aside0.mk (below_step HB.out hb); clear ho hb))
    go_ret2
    exact ⟨_, rfl, HO.out, HB2.out⟩
end Go.Proofs.Ytnjidfgjldkkcaa.Q
-- Written for this seat by a program of its session (xp.py over the kit's printer).
namespace Go.Proofs.Ytnjidfgjldkkcaa.Q
open Go.RowKit Go.Proofs.YtnjidfgjldkkcaaW.PrintWords Go.Proofs.YtnjidfgjldkkcaaW.PrintLast Go.Proofs.YtnjidfgjldkkcaaW.PrintMore
attribute [local go_sem] max2_int min2_int max_two min_two max_three min_three max_four min_four xq_geq xq_leq xq_gtr   -- for this text's walks alone
set_option linter.unusedVariables false
set_option linter.unusedSimpArgs false

-- NOT PRINTED: function 72 (slices_IndexFunc_byte_byte)

-- NOT PRINTED: function 53 (slices_ContainsFunc_byte_byte)

-- NOT PRINTED: function 86 (wal_sums)

-- NOT PRINTED: function 73 (wal_frame)

-- NOT PRINTED: function 54 (wal_Of)

/-! ### bagnalllaw_WalPacks: function 8 -/
def bagnalllaw_WalPacks.f (k : Nat) (l0 : List (List Int)) : Option (Bool) := (wal_Pack.f l0).bind fun bt115 => ((bagnallref_WalPack.f k l0).bind fun bt119 => ((bagnalllaw_sameBytes.f k bt115.1 bt119.1).bind fun t123 => (if t123 = true then (some (bt115.2 == bt119.2)) else (some false))))
theorem bagnalllaw_WalPacks.mono : ∀ a0 k, LeO (bagnalllaw_WalPacks.f k a0) (bagnalllaw_WalPacks.f (k + 1) a0) := by
  intro a0 k
  unfold bagnalllaw_WalPacks.f
  repeat' first
      | (with_reducible exact bagnalllaw_sameBytes.mono _ _ _)
      | (with_reducible exact bagnallref_WalPack.mono _ _)
      | (with_reducible exact LeO.refl _)
      | (with_reducible exact LeO.none _)
      | (with_reducible refine LeO.ite ?_ ?_)
      | (with_reducible refine LeO.bind ?_ (fun _ => ?_))
      | exact bagnalllaw_sameBytes.mono _ _ _
      | exact bagnallref_WalPack.mono _ _
      | exact LeO.none _
      | refine LeO.ite ?_ ?_
      | refine LeO.bind ?_ (fun _ => ?_)
set_option maxHeartbeats 8000000 in
set_option maxRecDepth 100000 in
theorem bagnalllaw_WalPacks.calls (k : Nat) (A0 : Option Addr) (c0 : Nat) (l0 : List (List Int)) (r : Bool) (w : World) (hr0 : Kd.C (Kd.slice 5 (Kd.int .u8)) w A0 l0.length l0) (hc0 : l0.length ≤ c0) (h : bagnalllaw_WalPacks.f k l0 = some r) :
    Calls Try.prog 8 #[.slice A0 l0.length c0] w fun e w' => e = .returned (.bool r) ∧ Below w.heap.size w w' := by
  have HR0 := Aside0.mk hr0
  have HC0 := Aside0.mk hc0
  clear hr0 hc0
  have HB := Aside0.mk (Below.refl w.heap.size w)
  have H : ((wal_Pack.f l0).bind fun bt115 => ((bagnallref_WalPack.f k l0).bind fun bt119 => ((bagnalllaw_sameBytes.f k bt115.1 bt119.1).bind fun t123 => (if t123 = true then (some (bt115.2 == bt119.2)) else (some false))))) = some r := h
  clear h
  replace H := Option.bind_eq_some_iff.mp H
  obtain ⟨⟨t115, t116⟩, A20, H⟩ := H
  replace H : ((bagnallref_WalPack.f k l0).bind fun bt119 => ((bagnalllaw_sameBytes.f k t115 bt119.1).bind fun t123 => (if t123 = true then (some (t116 == bt119.2)) else (some false)))) = some r := H
  have A2 := Aside0.mk A20
  clear A20
  replace H := Option.bind_eq_some_iff.mp H
  obtain ⟨⟨t119, t120⟩, A30, H⟩ := H
  replace H : ((bagnalllaw_sameBytes.f k t115 t119).bind fun t123 => (if t123 = true then (some (t116 == t120)) else (some false))) = some r := H
  have A3 := Aside0.mk A30
  clear A30
  replace H := Option.bind_eq_some_iff.mp H
  obtain ⟨t123, A40, H⟩ := H
  replace H : (if t123 = true then (some (t116 == t120)) else (some false)) = some r := H
  have A4 := Aside0.mk A40
  clear A40
  by_cases c5 : t123 = true
  · subst c5
    have H1 : (some (t116 == t120)) = some r := by rw [if_pos rfl] at H; exact H
    clear H
    have H := H1
    clear H1
    obtain rfl := Option.some.inj H
    go_enter Try.func8, Try.ntmps8
    go_wp2_with (first | ((with_reducible refine gate_callee (f := 27) rfl ?_); refine goesL_ (some 9) rfl rfl Try.func27 (by kernel_rfl) rfl #[.slice A0 l0.length c0] rfl (by (try simp only [List.map_toArray, List.map_cons, List.map_nil]); first | done | rfl | (simp only [List.length_drop, List.length_take]; rfl)) ?_; (with_reducible refine (wal_Pack.calls _ _ l0 t115 t116 _ ?side1 ?side2 A2.out).mono ?_); (case side1 => repeat (first | exact HR0.out | (with_reducible refine Kd.C_alloc ?_ _) | (with_reducible refine Kd.C_drewN ?_ _) | (with_reducible refine Kd.C_drew ?_))); (case side2 => exact HC0.out); rintro e w6 ⟨v117, rfl, ho0, hb⟩; refine ⟨_, rfl, ?_⟩; have n0_ := Aside0.mk (Kd.R_lower ho0 (below_size (by repeat (first | (with_reducible first | exact HB.out | apply below_alloc | apply pw_below_drewN | apply below_drew1) | exact HB.out)))); have n1_ := Aside0.mk (below_step (by repeat (first | (with_reducible first | exact HB.out | apply below_alloc | apply pw_below_drewN | apply below_drew1) | exact HB.out)) hb); clear HB; have HO118 := n0_; have HB := n1_; clear n0_ n1_; (try clear hb); (try clear hb2); (try clear hk); (try clear hi); (try clear ho0)) | ((with_reducible refine gate_callee (f := 28) rfl ?_); refine goesL_ (some 14) rfl rfl Try.func28 (by kernel_rfl) rfl #[.slice A0 l0.length c0] rfl (by (try simp only [List.map_toArray, List.map_cons, List.map_nil]); first | done | rfl | (simp only [List.length_drop, List.length_take]; rfl)) ?_; (with_reducible refine (bagnallref_WalPack.calls k _ _ l0 t119 t120 _ ?side1 ?side2 A3.out).mono ?_); (case side1 => repeat (first | exact (Kd.C_below HR0.out HB.out) | (with_reducible refine Kd.C_alloc ?_ _) | (with_reducible refine Kd.C_drewN ?_ _) | (with_reducible refine Kd.C_drew ?_))); (case side2 => exact HC0.out); rintro e w7 ⟨v121, rfl, ho0, hb⟩; refine ⟨_, rfl, ?_⟩; have n0_ := Aside0.mk (Kd.R_elder' (by (with_reducible repeat (first | apply Kd.R_alloc | apply Kd.R_drewN | apply Kd.R_drew)); exact HO118.out) (Kd.R_base ho0) hb); have n1_ := Aside0.mk (Kd.R_lower (Kd.R_new' ho0 (Kd.R_lt (by (with_reducible repeat (first | apply Kd.R_alloc | apply Kd.R_drewN | apply Kd.R_drew)); exact HO118.out))) (below_size (by repeat (first | (with_reducible first | exact HB.out | apply below_alloc | apply pw_below_drewN | apply below_drew1) | exact HB.out)))); have n2_ := Aside0.mk (below_step (by repeat (first | (with_reducible first | exact HB.out | apply below_alloc | apply pw_below_drewN | apply below_drew1) | exact HB.out)) hb); clear HO118; clear HB; have HO118 := n0_; have HO122 := n1_; have HB := n2_; clear n0_ n1_ n2_; (try clear hb); (try clear hb2); (try clear hk); (try clear hi); (try clear ho0); obtain ⟨Ao8, co8, eo8⟩ := Kd.R_slice HO118.out; subst eo8; obtain ⟨Ao9, co9, eo9⟩ := Kd.R_slice HO122.out; subst eo9) | ((with_reducible refine gate_callee (f := 29) rfl ?_); refine goesL_ (some 19) rfl rfl Try.func29 (by kernel_rfl) rfl #[.slice Ao8 t115.length co8, .slice Ao9 t119.length co9] rfl (by (try simp only [List.map_toArray, List.map_cons, List.map_nil]); first | done | rfl | (simp only [List.length_drop, List.length_take]; rfl)) ?_; (with_reducible refine (bagnalllaw_sameBytes.calls k _ _ t115 _ _ t119 true _ ?side1 ?side2 ?side3 ?side4 A4.out).mono ?_); (case side1 => repeat (first | exact (Kd.R_reads' HO118.out).2.2 | (with_reducible refine Kd.C_alloc ?_ _) | (with_reducible refine Kd.C_drewN ?_ _) | (with_reducible refine Kd.C_drew ?_))); (case side2 => exact (Kd.R_reads' HO118.out).2.1); (case side3 => repeat (first | exact (Kd.R_reads' HO122.out).2.2 | (with_reducible refine Kd.C_alloc ?_ _) | (with_reducible refine Kd.C_drewN ?_ _) | (with_reducible refine Kd.C_drew ?_))); (case side4 => exact (Kd.R_reads' HO122.out).2.1); rintro e w' ⟨rfl, ⟨nd, rfl⟩⟩; refine ⟨_, rfl, ?_⟩))
    go_ret
    exact ⟨by first | rfl | (simp [errW_none, errW_some] <;> rfl) | (simp [*, errW_none, errW_some] <;> rfl), by repeat (first | (with_reducible first | exact HB.out | apply below_alloc | apply pw_below_drewN | apply below_drew1) | exact HB.out)⟩
  · replace c5 := Bool.eq_false_iff.mpr c5
    subst c5
    have H1 : (some false) = some r := by rw [if_neg (show ¬ (false = true) by decide)] at H; exact H
    clear H
    have H := H1
    clear H1
    obtain rfl := Option.some.inj H
    go_enter Try.func8, Try.ntmps8
    go_wp2_with (first | ((with_reducible refine gate_callee (f := 27) rfl ?_); refine goesL_ (some 9) rfl rfl Try.func27 (by kernel_rfl) rfl #[.slice A0 l0.length c0] rfl (by (try simp only [List.map_toArray, List.map_cons, List.map_nil]); first | done | rfl | (simp only [List.length_drop, List.length_take]; rfl)) ?_; (with_reducible refine (wal_Pack.calls _ _ l0 t115 t116 _ ?side1 ?side2 A2.out).mono ?_); (case side1 => repeat (first | exact HR0.out | (with_reducible refine Kd.C_alloc ?_ _) | (with_reducible refine Kd.C_drewN ?_ _) | (with_reducible refine Kd.C_drew ?_))); (case side2 => exact HC0.out); rintro e w10 ⟨v117, rfl, ho0, hb⟩; refine ⟨_, rfl, ?_⟩; have n0_ := Aside0.mk (Kd.R_lower ho0 (below_size (by repeat (first | (with_reducible first | exact HB.out | apply below_alloc | apply pw_below_drewN | apply below_drew1) | exact HB.out)))); have n1_ := Aside0.mk (below_step (by repeat (first | (with_reducible first | exact HB.out | apply below_alloc | apply pw_below_drewN | apply below_drew1) | exact HB.out)) hb); clear HB; have HO118 := n0_; have HB := n1_; clear n0_ n1_; (try clear hb); (try clear hb2); (try clear hk); (try clear hi); (try clear ho0)) | ((with_reducible refine gate_callee (f := 28) rfl ?_); refine goesL_ (some 14) rfl rfl Try.func28 (by kernel_rfl) rfl #[.slice A0 l0.length c0] rfl (by (try simp only [List.map_toArray, List.map_cons, List.map_nil]); first | done | rfl | (simp only [List.length_drop, List.length_take]; rfl)) ?_; (with_reducible refine (bagnallref_WalPack.calls k _ _ l0 t119 t120 _ ?side1 ?side2 A3.out).mono ?_); (case side1 => repeat (first | exact (Kd.C_below HR0.out HB.out) | (with_reducible refine Kd.C_alloc ?_ _) | (with_reducible refine Kd.C_drewN ?_ _) | (with_reducible refine Kd.C_drew ?_))); (case side2 => exact HC0.out); rintro e w11 ⟨v121, rfl, ho0, hb⟩; refine ⟨_, rfl, ?_⟩; have n0_ := Aside0.mk (Kd.R_elder' (by (with_reducible repeat (first | apply Kd.R_alloc | apply Kd.R_drewN | apply Kd.R_drew)); exact HO118.out) (Kd.R_base ho0) hb); have n1_ := Aside0.mk (Kd.R_lower (Kd.R_new' ho0 (Kd.R_lt (by (with_reducible repeat (first | apply Kd.R_alloc | apply Kd.R_drewN | apply Kd.R_drew)); exact HO118.out))) (below_size (by repeat (first | (with_reducible first | exact HB.out | apply below_alloc | apply pw_below_drewN | apply below_drew1) | exact HB.out)))); have n2_ := Aside0.mk (below_step (by repeat (first | (with_reducible first | exact HB.out | apply below_alloc | apply pw_below_drewN | apply below_drew1) | exact HB.out)) hb); clear HO118; clear HB; have HO118 := n0_; have HO122 := n1_; have HB := n2_; clear n0_ n1_ n2_; (try clear hb); (try clear hb2); (try clear hk); (try clear hi); (try clear ho0); obtain ⟨Ao12, co12, eo12⟩ := Kd.R_slice HO118.out; subst eo12; obtain ⟨Ao13, co13, eo13⟩ := Kd.R_slice HO122.out; subst eo13) | ((with_reducible refine gate_callee (f := 29) rfl ?_); refine goesL_ (some 19) rfl rfl Try.func29 (by kernel_rfl) rfl #[.slice Ao12 t115.length co12, .slice Ao13 t119.length co13] rfl (by (try simp only [List.map_toArray, List.map_cons, List.map_nil]); first | done | rfl | (simp only [List.length_drop, List.length_take]; rfl)) ?_; (with_reducible refine (bagnalllaw_sameBytes.calls k _ _ t115 _ _ t119 false _ ?side1 ?side2 ?side3 ?side4 A4.out).mono ?_); (case side1 => repeat (first | exact (Kd.R_reads' HO118.out).2.2 | (with_reducible refine Kd.C_alloc ?_ _) | (with_reducible refine Kd.C_drewN ?_ _) | (with_reducible refine Kd.C_drew ?_))); (case side2 => exact (Kd.R_reads' HO118.out).2.1); (case side3 => repeat (first | exact (Kd.R_reads' HO122.out).2.2 | (with_reducible refine Kd.C_alloc ?_ _) | (with_reducible refine Kd.C_drewN ?_ _) | (with_reducible refine Kd.C_drew ?_))); (case side4 => exact (Kd.R_reads' HO122.out).2.1); rintro e w' ⟨rfl, ⟨nd, rfl⟩⟩; refine ⟨_, rfl, ?_⟩))
    go_ret
    exact ⟨by first | rfl | (simp [errW_none, errW_some] <;> rfl) | (simp [*, errW_none, errW_some] <;> rfl), by repeat (first | (with_reducible first | exact HB.out | apply below_alloc | apply pw_below_drewN | apply below_drew1) | exact HB.out)⟩

end Go.Proofs.Ytnjidfgjldkkcaa.Q
/- Plain laws of records that come in batches: the two sums, a batch's bytes. -/
namespace Go.Proofs.Ytnjidfgjldkkcaa.Plain
open Go.RowKit Go.Proofs.Ytnjidfgjldkkcaa.Q Go.Proofs.YtnjidfgjldkkcaaW.PrintWords
/-- A list of bytes. -/
def ByteL (l : List Int) : Prop := ∀ x ∈ l, 0 ≤ x ∧ x ≤ 255
def sA : List Int → Int
  | [] => 0
  | x :: t => (x + 1) + sA t
def sB : List Int → Int
  | [] => 0
  | x :: t => ((t.length : Int) + 1) * (x + 1) + sB t
theorem byteL_tail {x : Int} {t : List Int} (h : ByteL (x :: t)) : ByteL t := fun y hy => h y (by simp [hy])
theorem sumA_eq {a x : Int} (ha : 0 ≤ a ∧ a < 251) (hx : 0 ≤ x ∧ x ≤ 255) : sumA a x = (a + x + 1) % 251 := by
  unfold sumA
  rw [wrap_in (n := x) (by omega) (by omega), wrap_in (n := a + x) (by omega) (by omega), wrap_in (by omega) (by omega), Int.tmod_eq_emod_of_nonneg (by omega)]
theorem sumB_eq {a b : Int} (ha : 0 ≤ a ∧ a < 251) (hb : 0 ≤ b ∧ b < 251) : sumB b a = (b + a) % 251 := by
  unfold sumB
  rw [wrap_in (by omega) (by omega), Int.tmod_eq_emod_of_nonneg (by omega)]
theorem sumsF_eq : ∀ (l : List Int) (a b : Int), (0 ≤ a ∧ a < 251) → (0 ≤ b ∧ b < 251) → ByteL l → sumsF a b l = ((a + sA l) % 251, (b + (l.length : Int) * a + sB l) % 251)
  | [], a, b, ha, hb, _ => by
    simp only [sumsF, sA, sB, List.length_nil]
    rw [Int.emod_eq_of_lt (by omega) (by omega), Int.emod_eq_of_lt (by simp; omega) (by simp; omega)]
    simp
  | x :: t, a, b, ha, hb, hl => by
    have hx := hl x (by simp)
    simp only [sumsF]
    rw [sumA_eq ha hx]
    have ha' : 0 ≤ (a + x + 1) % 251 ∧ (a + x + 1) % 251 < 251 := ⟨by omega, by omega⟩
    rw [sumB_eq ha' hb]
    have hb' : 0 ≤ (b + (a + x + 1) % 251) % 251 ∧ (b + (a + x + 1) % 251) % 251 < 251 := ⟨by omega, by omega⟩
    rw [sumsF_eq t _ _ ha' hb' (byteL_tail hl)]
    simp only [sA, sB, List.length_cons]
    obtain ⟨q, hq⟩ : ∃ q, (a + x + 1) % 251 = a + x + 1 - 251 * q := ⟨(a + x + 1) / 251, by omega⟩
    rw [hq]
    have e1 : ((t.length : Int)) * (a + x + 1 - 251 * q) = (t.length : Int) * a + (t.length : Int) * (x + 1) - 251 * ((t.length : Int) * q) := by
      rw [Int.mul_sub, show a + x + 1 = a + (x + 1) by omega, Int.mul_add, Int.mul_left_comm]
    have e2 : ((t.length : Int) + 1) * (x + 1) = (t.length : Int) * (x + 1) + (x + 1) := by rw [Int.add_mul, Int.one_mul]
    have e3 : (((t.length + 1 : Nat) : Int)) * a = (t.length : Int) * a + a := by rw [Int.natCast_add, Int.add_mul]; simp
    rw [e1, e2, e3]
    generalize (t.length : Int) * a = p1
    generalize (t.length : Int) * (x + 1) = p2
    generalize (t.length : Int) * q = p3
    congr 1
    · omega
    · omega
theorem sA_bound : ∀ l : List Int, ByteL l → 0 ≤ sA l ∧ sA l ≤ 256 * l.length
  | [], _ => by simp [sA]
  | x :: t, h => by
    have := sA_bound t (byteL_tail h)
    have hx := h x (by simp)
    simp only [sA, List.length_cons]
    omega
theorem sB_bound : ∀ (l : List Int) (n : Nat), ByteL l → l.length ≤ n → 0 ≤ sB l ∧ sB l ≤ 256 * n * l.length
  | [], n, _, _ => by simp [sB]
  | x :: t, n, h, hn => by
    simp only [List.length_cons] at hn
    have := sB_bound t n (byteL_tail h) (by omega)
    have hx := h x (by simp)
    simp only [sB, List.length_cons]
    have h1 : 0 ≤ ((t.length : Int) + 1) * (x + 1) := Int.mul_nonneg (by omega) (by omega)
    have h2 : ((t.length : Int) + 1) * (x + 1) ≤ (n : Int) * 256 := Int.mul_le_mul (by omega) (by omega) (by omega) (by omega)
    have h3 : (256 * (n : Int) * ((t.length + 1 : Nat) : Int)) = 256 * (n : Int) * (t.length : Int) + (n : Int) * 256 := by rw [Int.natCast_add, Int.mul_add]; simp [Int.mul_comm]
    rw [h3]
    omega
theorem refSum_l0 (l : List Int) (hb : ByteL l) (hl : l.length ≤ 1000) : ∀ (d i : Nat) (a b : Int), i + d = l.length → 0 ≤ a → a ≤ 256 * i → 0 ≤ b → b ≤ 256000 * i →
    Ev (fun k => bagnallref_walSums.l0 k l a b l (l.length : Int) (i : Int)) ((a + sA (l.drop i)) % 251, (b + sB (l.drop i)) % 251)
  | 0, i, a, b, hi, ha, ha', hb0, hb' => by
    rw [List.drop_of_length_le (by omega)]
    refine Ev.step (fun k => rfl) (Ev.neg (by omega) (Ev.to (Ev.now _) ?_))
    simp only [sA, sB, Int.add_zero]
    rw [Int.tmod_eq_emod_of_nonneg ha, Int.tmod_eq_emod_of_nonneg hb0]
  | d + 1, i, a, b, hi, ha, ha', hb0, hb' => by
    have hlt : i < l.length := by omega
    have e2 : wrap64 ((i : Int) + 1) = ((i + 1 : Nat) : Int) := wrap_succ (by omega)
    refine Ev.step (fun k => rfl) (Ev.pos (by omega) (Ev.pos (by omega) (Ev.pos (by omega) ?_)))
    have hx := hb l[i] (List.getElem_mem hlt)
    rw [e2, rd_at hlt, List.drop_eq_getElem_cons hlt]
    generalize l[i] = x at hx
    rw [wrap_in (n := x) (by omega) (by omega), wrap_in (n := x + 1) (by omega) (by omega), wrap_in (n := (l.length : Int) - i) (by omega) (by omega)]
    have h1 : 0 ≤ ((l.length : Int) - i) * (x + 1) := Int.mul_nonneg (by omega) (by omega)
    have h2 : ((l.length : Int) - i) * (x + 1) ≤ 1000 * 256 := Int.mul_le_mul (by omega) (by omega) (by omega) (by omega)
    have e3 : ((((l.drop (i + 1)).length : Nat) : Int) + 1) * (x + 1) = ((l.length : Int) - i) * (x + 1) := by
      congr 1
      rw [List.length_drop]
      omega
    have ih := refSum_l0 l hb hl d (i + 1) (a + (x + 1)) (b + ((l.length : Int) - i) * (x + 1)) (by omega) (by omega) (by omega) (by omega) (by omega)
    rw [wrap_in (n := ((l.length : Int) - i) * (x + 1)) (by omega) (by omega), wrap_in (n := a + (x + 1)) (by omega) (by omega), wrap_in (n := b + ((l.length : Int) - i) * (x + 1)) (by omega) (by omega)]
    simp only [sA, sB]
    rw [e3]
    exact Ev.to ih (by rw [Int.add_assoc a (x + 1), Int.add_assoc b])
theorem refSum_ev (l : List Int) (hb : ByteL l) (hl : l.length ≤ 1000) : Ev (fun k => bagnallref_walSums.f k l) (sumsF 0 0 l) := by
  have h := refSum_l0 l hb hl l.length 0 0 0 (by omega) (by omega) (by omega) (by omega) (by omega)
  rw [List.drop_zero] at h
  rw [sumsF_eq l 0 0 (by omega) (by omega) hb]
  refine Ev.to h ?_
  simp
theorem frameB_byte {r : List Int} (h : ByteL r) (b : Bool) : ByteL (frameB r b) := by
  intro x hx
  simp only [frameB, List.cons_append, List.nil_append, List.mem_cons] at hx
  rcases hx with rfl | rfl | hx
  · omega
  · cases b <;> simp [flagOf]
  · exact h x hx
theorem rd4_at {l : List (List Int)} {i : Nat} (h : i < l.length) : rd_L4 l (i : Int) = l[i] := rdL1_at h
theorem packF_len : ∀ l : List (List Int), (∀ r ∈ l, r.length ≤ 60) → (packF l).length ≤ 64 * l.length
  | [], _ => by simp [packF]
  | r :: t, h => by
    have := packF_len t (fun x hx => h x (by simp [hx]))
    have hr := h r (by simp)
    simp only [packF, List.length_append, frameF_length, List.length_cons]
    omega
theorem refPack_l1 (l : List (List Int)) (hl : l.length ≤ 60) (hb : ∀ r ∈ l, ByteL r ∧ r.length ≤ 60) : ∀ (d i : Nat) (x : List Int), i + d = l.length → x.length ≤ 64 * i →
    Ev (fun k => bagnallref_WalPack.l1 k l x l (l.length : Int) (i : Int)) (x ++ packF (l.drop i), 0)
  | 0, i, x, hi, hx => by
    rw [List.drop_of_length_le (by omega), packF, List.append_nil]
    exact Ev.step (fun k => rfl) (Ev.neg (by omega) (Ev.now _))
  | d + 1, i, x, hi, hx => by
    have hlt : i < l.length := by omega
    have e2 : wrap64 ((i : Int) + 1) = ((i + 1 : Nat) : Int) := wrap_succ (by omega)
    refine Ev.step (fun k => rfl) (Ev.pos (by omega) (Ev.pos (by omega) (Ev.pos (by omega) ?_)))
    have hr := hb l[i] (List.getElem_mem hlt)
    have hp : packF (l.drop i) = frameF l[i] (l.drop (i + 1)).isEmpty ++ packF (l.drop (i + 1)) := by rw [List.drop_eq_getElem_cons hlt]; rfl
    rw [rd4_at hlt, e2, hp, ← List.append_assoc]
    generalize l[i] = r at hr
    obtain ⟨hrb, hrl⟩ := hr
    have hfb : ∀ b, (frameB r b).length = r.length + 2 := fun b => by simp [frameB]
    have fin : ∀ b, Ev (fun k => bagnallref_WalPack.l1 k l (x ++ frameB r b ++ [(sumsF 0 0 (frameB r b)).1 % 256, (sumsF 0 0 (frameB r b)).2 % 256]) l (l.length : Int) ((i + 1 : Nat) : Int)) (x ++ frameF r b ++ packF (l.drop (i + 1)), 0) := by
      intro b
      have ih := refPack_l1 l hl hb d (i + 1) (x ++ frameF r b) (by omega) (by rw [List.length_append, frameF_length]; omega)
      have e : x ++ frameB r b ++ [(sumsF 0 0 (frameB r b)).1 % 256, (sumsF 0 0 (frameB r b)).2 % 256] = x ++ frameF r b := by rw [List.append_assoc]; rfl
      rw [e]
      exact ih
    refine Ev.bind (Ev.lift (r := [(r.length : Int) % 256, 0]) rfl) ?_
    by_cases hlast : ((i + 1 : Nat) : Int) = (l.length : Int)
    · have hE : (l.drop (i + 1)).isEmpty = true := by rw [List.isEmpty_iff_length_eq_zero, List.length_drop]; omega
      rw [hE]
      refine Ev.pos hlast (Ev.pos (by simp) (Ev.bind (Ev.lift (r := [(r.length : Int) % 256, 1]) rfl) (Ev.pos (by simp; omega) ?_)))
      refine Ev.bind (Ev.lift (r := frameB r true) rfl) (Ev.bind (refSum_ev _ (frameB_byte hrb true) (by rw [hfb]; omega)) (Ev.pos (by rw [hfb]; omega) ?_))
      exact Ev.bind (Ev.lift rfl) (Ev.bind (Ev.lift rfl) (Ev.pos (by simp [hfb]; omega) (fin true)))
    · have hE : (l.drop (i + 1)).isEmpty = false := by
        rw [Bool.eq_false_iff, ne_eq, List.isEmpty_iff_length_eq_zero, List.length_drop]; omega
      rw [hE]
      refine Ev.neg hlast (Ev.pos (by simp; omega) ?_)
      refine Ev.bind (Ev.lift (r := frameB r false) rfl) (Ev.bind (refSum_ev _ (frameB_byte hrb false) (by rw [hfb]; omega)) (Ev.pos (by rw [hfb]; omega) ?_))
      exact Ev.bind (Ev.lift rfl) (Ev.bind (Ev.lift rfl) (Ev.pos (by simp [hfb]; omega) (fin false)))
theorem refPack_l0 (l : List (List Int)) (hl : l.length ≤ 60) : ∀ (d i : Nat) (r : List Int × Int), i + d = l.length → ((l.drop i).any oddF = false → Ev (fun k => bagnallref_WalPack.l1 k l ([] : List Int) l (l.length : Int) 0) r) → ((l.drop i).any oddF = true → r = ([], 1)) →
    Ev (fun k => bagnallref_WalPack.l0 k l l (l.length : Int) (i : Int)) r
  | 0, i, r, hi, h1, _ => by
    rw [List.drop_of_length_le (by omega)] at h1
    exact Ev.step (fun k => rfl) (Ev.neg (by omega) (h1 rfl))
  | d + 1, i, r, hi, h1, h2 => by
    have hlt : i < l.length := by omega
    have e2 : wrap64 ((i : Int) + 1) = ((i + 1 : Nat) : Int) := wrap_succ (by omega)
    refine Ev.step (fun k => rfl) (Ev.pos (by omega) (Ev.pos (by omega) (Ev.pos (by omega) ?_)))
    rw [List.drop_eq_getElem_cons hlt, List.any_cons] at h1 h2
    rw [rd4_at hlt, e2]
    by_cases hz : (l[i].length : Int) = 0
    · have : oddF l[i] = true := by unfold oddF; rw [show l[i].length = 0 by omega]; rfl
      exact Ev.pos hz (Ev.to (Ev.now _) (h2 (by rw [this]; rfl)).symm)
    · by_cases h60 : (l[i].length : Int) > 60
      · have : oddF l[i] = true := by unfold oddF; rw [decide_eq_false (show ¬ l[i].length ≤ 60 by omega), Bool.and_false]; rfl
        exact Ev.neg hz (Ev.pos h60 (Ev.to (Ev.now _) (h2 (by rw [this]; rfl)).symm))
      · have : oddF l[i] = false := by unfold oddF; rw [decide_eq_true (show l[i].length ≤ 60 by omega), decide_eq_true (show 1 ≤ l[i].length by omega)]; rfl
        rw [this, Bool.false_or] at h1 h2
        exact Ev.neg hz (Ev.neg h60 (refPack_l0 l hl d (i + 1) r (by omega) h1 h2))
theorem j0_true (k : Nat) (l : List (List Int)) : bagnallref_WalPack.j0 (k + 1) l true = some (([] : List Int), 1) := rfl
theorem j0_false (k : Nat) (l : List (List Int)) : bagnallref_WalPack.j0 (k + 1) l false = bagnallref_WalPack.l0 k l l (l.length : Int) 0 := rfl
theorem refPack_ev (l : List (List Int)) (hb : ∀ r ∈ l, ByteL r) : Ev (fun k => bagnallref_WalPack.f k l) (if packOdd l = true then ([], 1) else (packF l, 0)) := by
  unfold bagnallref_WalPack.f
  by_cases h0 : l.length = 0
  · have hp : packOdd l = true := by unfold packOdd; rw [h0]; rfl
    rw [if_pos hp]
    exact Ev.pos (by omega) (Ev.step (fun k => j0_true k l) (Ev.now _))
  refine Ev.neg (by omega) ?_
  by_cases h60 : (l.length : Int) > 60
  · have hp : packOdd l = true := by unfold packOdd; rw [decide_eq_true (show 60 < l.length by omega)]; simp
    rw [if_pos hp, decide_eq_true h60]
    exact Ev.step (fun k => j0_true k l) (Ev.now _)
  have hp : packOdd l = l.any oddF := by unfold packOdd; rw [decide_eq_false (show ¬ 60 < l.length by omega), decide_eq_false (show ¬ l.length < 1 by omega)]; simp
  rw [hp, decide_eq_false h60]
  refine Ev.step (fun k => j0_false k l) ?_
  refine refPack_l0 l (by omega) l.length 0 _ (by omega) (fun h => ?_) (fun h => ?_)
  · rw [List.drop_zero] at h
    rw [h]
    have hs : ∀ r ∈ l, ByteL r ∧ r.length ≤ 60 := fun r hr => ⟨hb r hr, by
      have := List.any_eq_false.1 h r hr
      unfold oddF at this
      simp at this
      omega⟩
    have := refPack_l1 l (by omega) hs l.length 0 [] (by omega) (by simp)
    rw [List.drop_zero, List.nil_append] at this
    exact this
  · rw [List.drop_zero] at h
    rw [h]; rfl
theorem sameB_l0 (l : List Int) (hl : l.length ≤ 1000000) : ∀ (d i : Nat), i + d = l.length → Ev (fun n => bagnalllaw_sameBytes.l0 n l l (i : Int)) true
  | 0, i, hi => Ev.step (fun k => rfl) (Ev.neg (by omega) (Ev.now _))
  | d + 1, i, hi => by
    have e2 : wrap64 ((i : Int) + 1) = ((i + 1 : Nat) : Int) := wrap_succ (by omega)
    refine Ev.step (fun k => rfl) (Ev.pos (by omega) (Ev.pos (by omega) (Ev.pos (by omega) (Ev.pos rfl ?_))))
    rw [e2]
    exact sameB_l0 l hl d (i + 1) (by omega)
theorem sameB_ev (l : List Int) (hl : l.length ≤ 1000000) : Ev (fun n => bagnalllaw_sameBytes.f n l l) true := by
  unfold bagnalllaw_sameBytes.f
  exact Ev.pos rfl (sameB_l0 l hl l.length 0 (by omega))
end Go.Proofs.Ytnjidfgjldkkcaa.Plain
/- bagnallref.WalScan, walked to the same plain function as wal.Scan. -/
namespace Go.Proofs.Ytnjidfgjldkkcaa.Q
open Go.RowKit Go.Proofs.YtnjidfgjldkkcaaW.PrintWords Go.Proofs.YtnjidfgjldkkcaaW.PrintLast Go.Proofs.YtnjidfgjldkkcaaW.PrintMore Go.Proofs.Ytnjidfgjldkkcaa.Plain
theorem sums_ref (A : Option Addr) (c m : Nat) (l : List Int) (w : World) (hr : Kd.C (Kd.int .u8) w A l.length l) (hc : l.length ≤ c) (hl : l.length ≤ 1000) (hb : ByteL l) (hm : l.length = m) :
    Calls Try.prog 55 #[.slice A m c] w fun e w' => e = .returned (.tuple #[.int .i64 (sumsF 0 0 l).1, .int .i64 (sumsF 0 0 l).2]) ∧ Drawn0 w w' := by
  subst hm
  obtain ⟨k, hk⟩ := (refSum_ev l hb hl).rounds
  exact bagnallref_walSums.calls k A c l _ _ w hr hc hk
theorem rd_drop (b : List Int) (n i : Nat) : rd (b.drop n) (i : Int) = rd b ((n + i : Nat) : Int) := by
  unfold rd
  rw [Int.toNat_natCast, Int.toNat_natCast, List.getD_eq_getElem?_getD, List.getD_eq_getElem?_getD, List.getElem?_drop]
theorem firstF_eq (b : List Int) (n : Nat) (hn : n ≤ b.length) : firstF (b.drop n) =
    if n + 2 ≤ b.length ∧ 1 ≤ rd b (n : Int) ∧ rd b (n : Int) ≤ 60 ∧ rd b ((n + 1 : Nat) : Int) ≤ 1 ∧ n + (rd b (n : Int)).toNat + 4 ≤ b.length ∧ (sumsF 0 0 ((b.take (n + (rd b (n : Int)).toNat + 2)).drop n)).1 % 256 = rd b ((n + (rd b (n : Int)).toNat + 2 : Nat) : Int) ∧ (sumsF 0 0 ((b.take (n + (rd b (n : Int)).toNat + 2)).drop n)).2 % 256 = rd b ((n + (rd b (n : Int)).toNat + 3 : Nat) : Int)
    then ((b.take (n + (rd b (n : Int)).toNat + 2)).drop (n + 2), rd b ((n + 1 : Nat) : Int) == 1, (rd b (n : Int)).toNat + 4) else ([], false, 0) := by
  have e0 : rd (b.drop n) 0 = rd b (n : Int) := rd_drop b n 0
  have e1 : rd (b.drop n) 1 = rd b ((n + 1 : Nat) : Int) := rd_drop b n 1
  unfold firstF
  have hk : kOf (b.drop n) = 2 + (rd b (n : Int)).toNat := by unfold kOf; rw [e0]
  have ht : (b.drop n).take (2 + (rd b (n : Int)).toNat) = (b.take (n + (rd b (n : Int)).toNat + 2)).drop n := by
    rw [List.drop_take]
    congr 1
    omega
  have hh : (headOk (b.drop n) = true) ↔ (n + 2 ≤ b.length ∧ 1 ≤ rd b (n : Int) ∧ rd b (n : Int) ≤ 60 ∧ rd b ((n + 1 : Nat) : Int) ≤ 1) := by
    unfold headOk
    rw [e0, e1]
    simp only [Bool.and_eq_true, decide_eq_true_eq, List.length_drop]
    omega
  have hs : (sumOk (b.drop n) = true) ↔ (n + (rd b (n : Int)).toNat + 4 ≤ b.length ∧ (sumsF 0 0 ((b.take (n + (rd b (n : Int)).toNat + 2)).drop n)).1 % 256 = rd b ((n + (rd b (n : Int)).toNat + 2 : Nat) : Int) ∧ (sumsF 0 0 ((b.take (n + (rd b (n : Int)).toNat + 2)).drop n)).2 % 256 = rd b ((n + (rd b (n : Int)).toNat + 3 : Nat) : Int)) := by
    unfold sumOk
    rw [hk, ht, rd_drop, rd_drop]
    simp only [Bool.and_eq_true, decide_eq_true_eq, beq_iff_eq, List.length_drop]
    rw [show n + (2 + (rd b (n : Int)).toNat) = n + (rd b (n : Int)).toNat + 2 by omega, show n + (2 + (rd b (n : Int)).toNat + 1) = n + (rd b (n : Int)).toNat + 3 by omega]
    constructor
    · rintro ⟨h1, h2⟩; exact ⟨by omega, h2⟩
    · rintro ⟨h1, h2⟩; exact ⟨by omega, h2⟩
  by_cases h : (headOk (b.drop n) && sumOk (b.drop n)) = true
  · rw [if_pos h]
    rw [Bool.and_eq_true, hh, hs] at h
    rw [if_pos ⟨h.1.1, h.1.2.1, h.1.2.2.1, h.1.2.2.2, h.2⟩, hk, ht, e1, List.drop_drop]
    congr 2
    omega
  · rw [if_neg h, if_neg]
    intro g
    apply h
    rw [Bool.and_eq_true, hh, hs]
    exact ⟨⟨g.1, g.2.1, g.2.2.1, g.2.2.2.1⟩, g.2.2.2.2⟩
theorem cut_none {b : List Int} {n : Nat} (hn : n ≤ b.length) (h : ¬ (n + 2 ≤ b.length ∧ 1 ≤ rd b (n : Int) ∧ rd b (n : Int) ≤ 60 ∧ rd b ((n + 1 : Nat) : Int) ≤ 1 ∧ n + (rd b (n : Int)).toNat + 4 ≤ b.length ∧ (sumsF 0 0 ((b.take (n + (rd b (n : Int)).toNat + 2)).drop n)).1 % 256 = rd b ((n + (rd b (n : Int)).toNat + 2 : Nat) : Int) ∧ (sumsF 0 0 ((b.take (n + (rd b (n : Int)).toNat + 2)).drop n)).2 % 256 = rd b ((n + (rd b (n : Int)).toNat + 3 : Nat) : Int))) {bs : List (List (List Int))} {ba : List (List Int)} {used g : Nat} {R : List (List (List Int)) × Nat} (hs : readF b (g + 1) bs ba used n = R) : (bs, used) = R := by
  rw [← hs]
  unfold readF
  rw [firstF_eq b n hn, if_neg h]
  rfl
set_option maxRecDepth 100000 in
set_option maxHeartbeats 8000000 in
theorem refScan_walk (A : Option Addr) (c : Nat) (b : List Int) (w : World) (hr : Kd.C (Kd.int .u8) w A b.length b) (hc : b.length ≤ c) (hb : ByteL b) :
    Calls Try.prog 31 #[.slice A b.length c] w fun e w' => ∃ v, e = .returned (.tuple #[v, .int .i64 (scanF b).2.1, .int .i64 (scanF b).2.2]) ∧ Kd.R kBB 35 w' w.heap.size (fun _ => True) v (scanF b).1 ∧ Below w.heap.size w w' := by
  have HR := Aside0.mk hr
  have HC := Aside0.mk hc
  have HBy := Aside0.mk hb
  clear hr hc hb
  go_enter Try.func31, Try.ntmps31
  by_cases hl : 1200 < b.length
  · have e : Aside0 (scanF b = ([], 0, 1)) := ⟨by unfold scanF; rw [if_pos hl]⟩
    go_wp2
    go_ret3
    rw [e.out]
    exact ⟨_, rfl, Kd.R_nil _ _ _ _ _, Below.refl _ _⟩
  have e : Aside0 (scanF b = ((readF b (b.length + 1) [] [] 0 0).1, ((readF b (b.length + 1) [] [] 0 0).2 : Int), 0)) := ⟨by unfold scanF; rw [if_neg hl]⟩
  go_wp2
  go_loopw [5, 6, 7, 8] (fun v2 v4 v3 v5 wr => ∃ (f n used : Nat) (bs : List (List (List Int))) (ba : List (List Int)), v3 = .int .i64 used ∧ v5 = .int .i64 n ∧ Aside0 (n ≤ b.length) ∧ Aside0 (b.length < n + f) ∧ Aside0 (readF b f bs ba used n = readF b (b.length + 1) [] [] 0 0) ∧ Aside0 (bs.length ≤ n) ∧ Aside0 (ba.length ≤ n) ∧ Aside0 (Kd.R kBB 35 wr w.heap.size (fun k => True ∧ some k ≠ v4.ownBlock) v2 bs) ∧ Aside0 (Kd.R kB 36 wr w.heap.size (fun _ => True) v4 ba) ∧ Aside0 (Below w.heap.size w wr)) (fun _ _ _ v5 _ => b.length - (intOf v5).toNat)
  case atStart => exact ⟨b.length + 1, 0, 0, [], [], rfl, rfl, ⟨Nat.zero_le _⟩, ⟨by omega⟩, ⟨rfl⟩, ⟨Nat.zero_le _⟩, ⟨Nat.zero_le _⟩, ⟨Kd.R_nil _ _ _ _ _⟩, ⟨Kd.R_nil _ _ _ _ _⟩, ⟨Below.refl _ _⟩⟩
  case round =>
    obtain ⟨f, n, used, bs, ba, rfl, rfl, hn, hf, hs, hbl, hal, HO2, HO4, HB⟩ := hrel
    have hn' := hn.out
    have hc' := HC.out
    obtain ⟨g, rfl⟩ : ∃ g, f = g + 1 := ⟨f - 1, by have := hf.out; omega⟩
    by_cases h5 : n + 5 ≤ b.length
    · have HCb := Kd.C_below HR.out HB.out
      obtain ⟨ad, rfl, hc0⟩ := Kd.at_int HCb (n : Int) (by omega) (by omega)
      obtain ⟨ad', had, hc1⟩ := Kd.at_int HCb ((n + 1 : Nat) : Int) (by omega) (by omega)
      obtain rfl := Option.some.inj had
      clear had
      have hN := Aside0.mk (fun h => cut_none hn' h hs.out)
      have hx0b := HBy.out _ (show rd b (n : Int) ∈ b by rw [rd_at (show n < b.length by omega)]; exact List.getElem_mem _)
      obtain ⟨x0, hx0⟩ : ∃ x, x = rd b (n : Int) := ⟨_, rfl⟩
      obtain ⟨x1, hx1⟩ : ∃ x, x = rd b ((n + 1 : Nat) : Int) := ⟨_, rfl⟩
      rw [← hx0] at hc0 hx0b hN
      rw [← hx1] at hc1 hN
      replace hx0 := Aside0.mk hx0
      replace hx1 := Aside0.mk hx1
      simp only [Int.toNat_natCast] at hc0 hc1
      replace hc1 : wr.cell? ⟨ad.block, ad.off + (n + 1), none⟩ = some (.int .u8 x1) := by
        have : ad.add (n + 1) = ⟨ad.block, ad.off + (n + 1), none⟩ := by unfold Addr.add; rw [if_neg (by omega)]
        rw [← this]; exact hc1
      by_cases h3 : x0 < 1
      · have hex := Aside0.mk (hN.out (fun h => by have := h.2.1; omega))
        go_wp2
        go_ret3
        rw [e.out, ← hex.out]
        exact ⟨_, rfl, Kd.R_drop HO2.out, HB.out⟩
      by_cases h4 : 60 < x0
      · have hex := Aside0.mk (hN.out (fun h => by have := h.2.2.1; omega))
        go_wp2
        go_ret3
        rw [e.out, ← hex.out]
        exact ⟨_, rfl, Kd.R_drop HO2.out, HB.out⟩
      by_cases h6 : 1 < x1
      · have hex := Aside0.mk (hN.out (fun h => by have := h.2.2.2.1; omega))
        go_wp2
        go_ret3
        rw [e.out, ← hex.out]
        exact ⟨_, rfl, Kd.R_drop HO2.out, HB.out⟩
      obtain ⟨k0, rfl⟩ : ∃ k0 : Nat, x0 = k0 := ⟨x0.toNat, by omega⟩
      rw [Int.toNat_natCast] at hN
      by_cases h7 : b.length < n + k0 + 4
      · have hex := Aside0.mk (hN.out (fun h => by have := h.2.2.2.2.1; omega))
        go_wp2
        go_ret3
        rw [e.out, ← hex.out]
        exact ⟨_, rfl, Kd.R_drop HO2.out, HB.out⟩
      have hm := Aside0.mk (Kd.C_mid (lo := n) (hi := n + k0 + 2) HCb (by omega) (by omega) HC.out)
      have hml : Aside0 (((b.take (n + k0 + 2)).drop n).length = k0 + 2) := ⟨by rw [List.length_drop, List.length_take]; omega⟩
      have hcn : ¬ c = n := by omega
      rw [if_neg hcn, show (Kd.int .u8).sz = 1 from rfl, Nat.mul_one] at hm
      have hmb : Aside0 (ByteL ((b.take (n + k0 + 2)).drop n)) := ⟨fun x hx => HBy.out x (List.mem_of_mem_take (List.mem_of_mem_drop hx))⟩
      obtain ⟨S, hS⟩ : ∃ S, Aside0 (S = sumsF 0 0 ((b.take (n + k0 + 2)).drop n)) := ⟨_, ⟨rfl⟩⟩
      have hcall : Aside0 (∀ W, Below wr.heap.size wr W → Calls Try.prog 55 #[.slice (some (ad.add n)) (n + k0 + 2 - n) (c - n)] W fun e w' => e = .returned (.tuple #[.int .i64 S.1, .int .i64 S.2]) ∧ Drawn0 W w') := ⟨fun W hW => hS.out ▸ sums_ref _ _ _ _ W (Kd.C_below hm.out hW) (by rw [hml.out]; omega) (by rw [hml.out]; omega) hmb.out (by rw [hml.out]; omega)⟩
      obtain ⟨ad', had, hc2⟩ := Kd.at_int HCb ((n + k0 + 2 : Nat) : Int) (by omega) (by omega)
      obtain rfl := Option.some.inj had
      clear had
      obtain ⟨ad', had, hc3⟩ := Kd.at_int HCb ((n + k0 + 3 : Nat) : Int) (by omega) (by omega)
      obtain rfl := Option.some.inj had
      clear had
      obtain ⟨y0, hy0⟩ : ∃ x, x = rd b ((n + k0 + 2 : Nat) : Int) := ⟨_, rfl⟩
      obtain ⟨y1, hy1⟩ : ∃ x, x = rd b ((n + k0 + 3 : Nat) : Int) := ⟨_, rfl⟩
      rw [← hy0] at hc2
      rw [← hy1] at hc3
      replace hy0 := Aside0.mk hy0
      replace hy1 := Aside0.mk hy1
      simp only [Int.toNat_natCast] at hc2 hc3
      replace hc2 : wr.cell? ⟨ad.block, ad.off + (n + k0 + 2), none⟩ = some (.int .u8 y0) := by
        have : ad.add (n + k0 + 2) = ⟨ad.block, ad.off + (n + k0 + 2), none⟩ := by unfold Addr.add; rw [if_neg (by omega)]
        rw [← this]; exact hc2
      replace hc3 : wr.cell? ⟨ad.block, ad.off + (n + k0 + 3), none⟩ = some (.int .u8 y1) := by
        have : ad.add (n + k0 + 3) = ⟨ad.block, ad.off + (n + k0 + 3), none⟩ := by unfold Addr.add; rw [if_neg (by omega)]
        rw [← this]; exact hc3
      have hy0b : 0 ≤ y0 ∧ y0 ≤ 255 := hy0.out ▸ HBy.out _ (by rw [rd_at (show n + k0 + 2 < b.length by omega)]; exact List.getElem_mem _)
      have hy1b : 0 ≤ y1 ∧ y1 ≤ 255 := hy1.out ▸ HBy.out _ (by rw [rd_at (show n + k0 + 3 < b.length by omega)]; exact List.getElem_mem _)
      have hSl : Aside0 ((0 ≤ S.1 ∧ S.1 < 251) ∧ 0 ≤ S.2 ∧ S.2 < 251) := ⟨by rw [hS.out, sumsF_eq _ 0 0 (by omega) (by omega) hmb.out]; simp only []; omega⟩
      have hSm : Aside0 (S.1 % 256 = S.1 ∧ S.2 % 256 = S.2) := ⟨by have := hSl.out; omega⟩
      rw [← hS.out, ← hy0.out, ← hy1.out, hSm.out.1, hSm.out.2] at hN
      by_cases h8 : S.1 = y0
      case neg =>
        have hex := Aside0.mk (hN.out (fun h => h8 h.2.2.2.2.2.1))
        have h8' : (S.1 == y0) = false := by simpa using h8
        go_wp2_with (go_at_call 55; refine (hcall.out _ (Below.refl _ _)).mono ?_; rintro e_ w1 ⟨rfl, hd⟩; have HB1 := Aside0.mk (below_step HB.out hd.below); have HO21 := Aside0.mk (Kd.R_below HO2.out hd.below); have HO41 := Aside0.mk (Kd.R_below HO4.out hd.below); have hd2 := (hd.below.cell (World.block_lt_of_cell? wr _ hc2)).trans hc2; have hd3 := (hd.below.cell (World.block_lt_of_cell? wr _ hc3)).trans hc3; have hd1 := (hd.below.cell (World.block_lt_of_cell? wr _ hc1)).trans hc1; clear hd)
        go_ret3
        rw [e.out, ← hex.out]
        exact ⟨_, rfl, Kd.R_drop HO21.out, HB1.out⟩
      by_cases h9 : S.2 = y1
      case neg =>
        have hex := Aside0.mk (hN.out (fun h => h9 h.2.2.2.2.2.2))
        have h9' : (S.2 == y1) = false := by simpa using h9
        go_wp2_with (go_at_call 55; refine (hcall.out _ (Below.refl _ _)).mono ?_; rintro e_ w1 ⟨rfl, hd⟩; have HB1 := Aside0.mk (below_step HB.out hd.below); have HO21 := Aside0.mk (Kd.R_below HO2.out hd.below); have HO41 := Aside0.mk (Kd.R_below HO4.out hd.below); have hd2 := (hd.below.cell (World.block_lt_of_cell? wr _ hc2)).trans hc2; have hd3 := (hd.below.cell (World.block_lt_of_cell? wr _ hc3)).trans hc3; have hd1 := (hd.below.cell (World.block_lt_of_cell? wr _ hc1)).trans hc1; clear hd)
        go_ret3
        rw [e.out, ← hex.out]
        exact ⟨_, rfl, Kd.R_drop HO21.out, HB1.out⟩
      have h8' : (S.1 == y0) = true := by simpa using h8
      have h9' : (S.2 == y1) = true := by simpa using h9
      have hL : b.length ≤ 1200 := by omega
      obtain ⟨rc, hrc⟩ : ∃ rc, Aside0 (rc = (b.take (n + k0 + 2)).drop (n + 2)) := ⟨_, ⟨rfl⟩⟩
      have hrl : Aside0 (rc.length = k0) := ⟨by rw [hrc.out, List.length_drop, List.length_take]; omega⟩
      have hm2 := Kd.C_mid (lo := n + 2) (hi := n + k0 + 2) HCb (by omega) (by omega) HC.out
      rw [← hrc.out, if_neg (show ¬ c = n + 2 by omega), show (Kd.int .u8).sz = 1 from rfl, Nat.mul_one, hrl.out] at hm2
      have hrcC : Aside0 (∀ W, Below wr.heap.size wr W → Kd.C (Kd.int .u8) W (some (ad.add (n + 2))) (n + 2 + k0 - (n + 2)) rc) := ⟨fun W hW => by rw [show n + 2 + k0 - (n + 2) = k0 by omega]; exact Kd.C_below hm2 hW⟩
      clear hm2
      have hcut : Aside0 (firstF (b.drop n) = (rc, (x1 == 1), k0 + 4)) := ⟨by
        rw [firstF_eq b n hn', ← hx0.out, ← hx1.out, Int.toNat_natCast, ← hS.out, ← hy0.out, ← hy1.out, hSm.out.1, hSm.out.2, if_pos ⟨by omega, by omega, by omega, by omega, by omega, h8, h9⟩, hrc.out]⟩
      have hstep : Aside0 ((if (x1 == 1) = true then readF b g (bs ++ [ba ++ [rc]]) [] (n + (k0 + 4)) (n + (k0 + 4)) else readF b g bs (ba ++ [rc]) used (n + (k0 + 4))) = readF b (b.length + 1) [] [] 0 0) := ⟨by
        rw [← hs.out]
        conv => rhs; unfold readF
        rw [hcut.out]
        rfl⟩
      have hcw1 : Aside0 (w.cell? ⟨ad.block, ad.off + (n + 1), none⟩ = some (.int .u8 x1)) := ⟨by
        obtain ⟨ad', had, hcw⟩ := Kd.at_int HR.out ((n + 1 : Nat) : Int) (by omega) (by omega)
        obtain rfl := Option.some.inj had
        rw [hx1.out, show (⟨ad.block, ad.off + (n + 1), none⟩ : Addr) = ad.add (n + 1) by unfold Addr.add; rw [if_neg (by omega)]]
        rw [Int.toNat_natCast] at hcw
        exact hcw⟩
      have hwb : n + (k0 + 4) ≤ b.length := by omega
      by_cases h10 : x1 = 1
      · have h10' : (x1 == 1) = true := by simpa using h10
        have hex : Aside0 (readF b g (bs ++ [ba ++ [rc]]) [] (n + (k0 + 4)) (n + (k0 + 4)) = readF b (b.length + 1) [] [] 0 0) := ⟨by have := hstep.out; rw [if_pos h10'] at this; exact this⟩
        clear hstep hcut h10
        go_wp2_with (first | (go_at_call 55; refine (hcall.out _ (Below.refl _ _)).mono ?_; rintro e_ w1 ⟨rfl, hd⟩; have HB1 := Aside0.mk (below_step HB.out hd.below); have HO21 := Aside0.mk (Kd.R_below HO2.out hd.below); have HO41 := Aside0.mk (Kd.R_below HO4.out hd.below); have hd2 := (hd.below.cell (World.block_lt_of_cell? wr _ hc2)).trans hc2; have hd3 := (hd.below.cell (World.block_lt_of_cell? wr _ hc3)).trans hc3; have hd1 := (hd.below.cell (World.block_lt_of_cell? wr _ hc1)).trans hc1; have HD1 := Aside0.mk hd.below; have hap : Aside0 (∀ k, w1.heap.size ≤ k → True ∧ some k ≠ u6.ownBlock) := ⟨fun k hk => ⟨trivial, fun he => (by obtain ⟨_, inner, ho, _⟩ := HO41.out; have := own_lt ho k he.symm; omega)⟩⟩; clear hd) | ((with_reducible refine gate_builtin (b := .append) (xs := #[.const (.slice none 0 0), .tmp 90]) rfl ?_); at_builtin; refine Kd.R_append_rows (Kd.int .u8) (w0 := w) w.heap.size rfl (.const (.slice none 0 0)) (.tmp 90) 36 5 (.int .u8 0) 1 rfl Try.underlying36 info5 rfl (by decide) (by omega) (.slice none 0 0) [] rc (some (ad.add (n + 2))) (n + 2 + k0 - (n + 2)) (c - (n + 2)) (fun k => w1.heap.size ≤ k) (fun _ => False) rfl rfl (Kd.R_nil _ _ _ _ _) (hrcC.out _ HD1.out) (fun x cs h => h) (fun _ h => h.elim) (fun _ h => h) HB1.out (below_size HB1.out) (by simp only [List.length_nil]; omega) ?_; intro vc w2 ho hb hg hat; rw [List.nil_append] at ho; obtain ⟨Ac, cc, rfl⟩ := Kd.R_slice ho; have HB2 := Aside0.mk hb; have HO22 := Aside0.mk (Kd.R_grown HO21.out hg (fun _ _ => by simp [Value.ownBlock])); have HO42 := Aside0.mk (Kd.R_grown HO41.out hg (fun _ _ => by simp [Value.ownBlock])); have HOc := Aside0.mk ho; clear ho hb hg hat) | ((with_reducible refine gate_builtin (b := .append) (xs := #[.tmp 82, .tmp 92]) rfl ?_); at_builtin; refine Kd.R_append kB (w0 := w) w.heap.size rfl (.tmp 82) (.tmp 92) 35 36 (.slice none 0 0) 24 rfl Try.underlying35 info36 rfl (by decide) (by omega) u6 ba rc [.slice Ac rc.length cc] (fun _ => True) (fun k => w1.heap.size ≤ k) rfl rfl ⟨_, rfl, HOc.out⟩ hap.out (fun _ _ => trivial) HO42.out HB2.out (below_size HB2.out) (by have := hal.out; omega) ?_; intro v4 w3 ho hb hg hat; obtain ⟨A4, c4, rfl⟩ := Kd.R_slice ho; rw [List.length_append, List.length_singleton] at ho hat; have HO43 := Aside0.mk ho; have HB3 := Aside0.mk hb; have HO23 := Aside0.mk (Kd.R_after HO22.out hg hat); have hd13 := (HB3.out.cell (World.block_lt_of_cell? w _ hcw1.out)).trans hcw1.out; clear ho hb hg hat) | ((with_reducible refine gate_builtin (b := .append) (xs := #[.tmp 105, .tmp 107]) rfl ?_); at_builtin; refine Kd.R_append kBB (w0 := w) w.heap.size rfl (.tmp 105) (.tmp 107) 41 35 (.slice none 0 0) 24 rfl Try.underlying41 info35 rfl (by decide) (by omega) u5 bs (ba ++ [rc]) [.slice A4 (ba.length + 1) c4] (fun _ => True) (fun k => True ∧ some k ≠ u5.ownBlock) rfl rfl ⟨_, rfl, R_apart HO43.out HO23.out (by intro q hq; simp [Kd.slice, Kd.int, Kd.scalar] at hq; omega)⟩ (fun k hk => hk) (fun _ _ => trivial) (Kd.R_drop HO23.out) HB3.out (below_size HB3.out) (by have := hbl.out; omega) ?_; intro v5 w4 ho hb hg hat; have HO24 := Aside0.mk ho; have HB4 := Aside0.mk hb; clear ho hb hg hat))
        go_roundw
        case rel => exact ⟨g, n + (k0 + 4), n + (k0 + 4), bs ++ [ba ++ [rc]], [], by simp, by simp, ⟨hwb⟩, ⟨by have := hf.out; omega⟩, hex, ⟨by have := hbl.out; rw [List.length_append, List.length_singleton]; omega⟩, ⟨Nat.zero_le _⟩, ⟨Kd.R_apart_nil HO24.out⟩, ⟨Kd.R_nil _ _ _ _ _⟩, HB4⟩
        case measure => simp [intOf]; omega
      · have h10' : (x1 == 1) = false := by simpa using h10
        have hex : Aside0 (readF b g bs (ba ++ [rc]) used (n + (k0 + 4)) = readF b (b.length + 1) [] [] 0 0) := ⟨by have := hstep.out; rw [if_neg (by rw [h10']; simp)] at this; exact this⟩
        clear hstep hcut h10
        go_wp2_with (first | (go_at_call 55; refine (hcall.out _ (Below.refl _ _)).mono ?_; rintro e_ w1 ⟨rfl, hd⟩; have HB1 := Aside0.mk (below_step HB.out hd.below); have HO21 := Aside0.mk (Kd.R_below HO2.out hd.below); have HO41 := Aside0.mk (Kd.R_below HO4.out hd.below); have hd2 := (hd.below.cell (World.block_lt_of_cell? wr _ hc2)).trans hc2; have hd3 := (hd.below.cell (World.block_lt_of_cell? wr _ hc3)).trans hc3; have hd1 := (hd.below.cell (World.block_lt_of_cell? wr _ hc1)).trans hc1; have HD1 := Aside0.mk hd.below; have hap : Aside0 (∀ k, w1.heap.size ≤ k → True ∧ some k ≠ u6.ownBlock) := ⟨fun k hk => ⟨trivial, fun he => (by obtain ⟨_, inner, ho, _⟩ := HO41.out; have := own_lt ho k he.symm; omega)⟩⟩; clear hd) | ((with_reducible refine gate_builtin (b := .append) (xs := #[.const (.slice none 0 0), .tmp 90]) rfl ?_); at_builtin; refine Kd.R_append_rows (Kd.int .u8) (w0 := w) w.heap.size rfl (.const (.slice none 0 0)) (.tmp 90) 36 5 (.int .u8 0) 1 rfl Try.underlying36 info5 rfl (by decide) (by omega) (.slice none 0 0) [] rc (some (ad.add (n + 2))) (n + 2 + k0 - (n + 2)) (c - (n + 2)) (fun k => w1.heap.size ≤ k) (fun _ => False) rfl rfl (Kd.R_nil _ _ _ _ _) (hrcC.out _ HD1.out) (fun x cs h => h) (fun _ h => h.elim) (fun _ h => h) HB1.out (below_size HB1.out) (by simp only [List.length_nil]; omega) ?_; intro vc w2 ho hb hg hat; rw [List.nil_append] at ho; obtain ⟨Ac, cc, rfl⟩ := Kd.R_slice ho; have HB2 := Aside0.mk hb; have HO22 := Aside0.mk (Kd.R_grown HO21.out hg (fun _ _ => by simp [Value.ownBlock])); have HO42 := Aside0.mk (Kd.R_grown HO41.out hg (fun _ _ => by simp [Value.ownBlock])); have HOc := Aside0.mk ho; clear ho hb hg hat) | ((with_reducible refine gate_builtin (b := .append) (xs := #[.tmp 82, .tmp 92]) rfl ?_); at_builtin; refine Kd.R_append kB (w0 := w) w.heap.size rfl (.tmp 82) (.tmp 92) 35 36 (.slice none 0 0) 24 rfl Try.underlying35 info36 rfl (by decide) (by omega) u6 ba rc [.slice Ac rc.length cc] (fun _ => True) (fun k => w1.heap.size ≤ k) rfl rfl ⟨_, rfl, HOc.out⟩ hap.out (fun _ _ => trivial) HO42.out HB2.out (below_size HB2.out) (by have := hal.out; omega) ?_; intro v4 w3 ho hb hg hat; obtain ⟨A4, c4, rfl⟩ := Kd.R_slice ho; rw [List.length_append, List.length_singleton] at ho hat; have HO43 := Aside0.mk ho; have HB3 := Aside0.mk hb; have HO23 := Aside0.mk (Kd.R_after HO22.out hg hat); have hd13 := (HB3.out.cell (World.block_lt_of_cell? w _ hcw1.out)).trans hcw1.out; clear ho hb hg hat))
        go_roundw
        case rel => exact ⟨g, n + (k0 + 4), used, bs, ba ++ [rc], rfl, by simp, ⟨hwb⟩, ⟨by have := hf.out; omega⟩, hex, ⟨by have := hbl.out; omega⟩, ⟨by have := hal.out; rw [List.length_append, List.length_singleton]; omega⟩, HO23, HO43, HB3⟩
        case measure => simp [intOf]; omega
    · have hex : Aside0 ((bs, used) = readF b (b.length + 1) [] [] 0 0) := ⟨cut_none hn' (by intro h; have h1 := h.2.1; have h2 := h.2.2.2.2.1; omega) hs.out⟩
      go_wp2
      go_ret3
      rw [e.out, ← hex.out]
      exact ⟨_, rfl, Kd.R_drop HO2.out, HB.out⟩
def bytesB (b : List Int) : Bool := b.all fun x => decide (0 ≤ x ∧ x ≤ 255)
theorem byteL_of {b : List Int} (h : bytesB b = true) : ByteL b := fun x hx => by
  have := List.all_eq_true.1 h x hx
  simpa using this
theorem of_byteL {b : List Int} (h : ByteL b) : bytesB b = true := List.all_eq_true.2 fun x hx => by
  have := h x hx
  simpa using this
def bagnallref_WalScan.f (b : List Int) : Option (List (List (List Int)) × Int × Int) := if bytesB b = true then some (scanF b) else none
theorem bagnallref_WalScan.calls (A0 : Option Addr) (c0 : Nat) (l0 : List Int) (r1 : List (List (List Int))) (r2 : Int) (r3 : Int) (w : World) (hr0 : Kd.C (Kd.int .u8) w A0 l0.length l0) (hc0 : l0.length ≤ c0) (h : bagnallref_WalScan.f l0 = some (r1, r2, r3)) :
    Calls Try.prog 31 #[.slice A0 l0.length c0] w fun e w' => ∃ v0_ : Value, e = .returned (.tuple #[v0_, .int .i64 r2, .int .i64 r3]) ∧ Kd.R kBB 35 w' w.heap.size (fun _ => True) v0_ r1 ∧ Below w.heap.size w w' := by
  unfold bagnallref_WalScan.f at h
  by_cases hb : bytesB l0 = true
  · rw [if_pos hb] at h
    replace h := Option.some.inj h
    have := refScan_walk A0 c0 l0 w hr0 hc0 (byteL_of hb)
    rw [h] at this
    exact this
  · rw [if_neg hb] at h
    cases h
end Go.Proofs.Ytnjidfgjldkkcaa.Q
/- Plain laws of package rows: what Check and its reference answer of a table. -/
namespace Go.Proofs.Ytnjidfgjldkkcaa.Plain
open Go.RowKit Go.Proofs.Ytnjidfgjldkkcaa.Q Go.Proofs.YtnjidfgjldkkcaaW.PrintWords

/-- The fault of the rows behind a row with the key p. -/
def faultFrom : Option ByteArray → List S69 → Int
  | _, [] => 0
  | p, r :: t => if r.f0.size < 1 ∨ 20 < r.f0.size ∨ 20 < r.f1.size then 1 else if r.f1.size = 0 then 4 else
      if (match p with | none => true | some q => Op.bytesLess q.toList r.f0.toList) = true then faultFrom (some r.f0) t else 7
/-- The fault of a table. -/
def rowsErr (l : List S69) : Int := if 40 < l.length then 1 else faultFrom none l
def prevOf (l : List S69) (i : Nat) : Option ByteArray := if i = 0 then none else (l[i - 1]?).map (·.f0)

theorem rd69 {l : List S69} {i : Nat} (h : i < l.length) : rd_T69 l (i : Int) = l[i] := getD_at h

theorem key_f (a : ByteArray) : rows_key.f a = some (decide (¬ (a.size < 1 ∨ 20 < a.size))) := by
  unfold rows_key.f
  by_cases h : a.size = 0
  · rw [if_pos (empty_iff.2 h), decide_eq_false (by omega)]
  · rw [if_neg (fun e => h (empty_iff.1 e))]
    congr 1
    by_cases h2 : (a.size : Int) ≤ 20
    · rw [decide_eq_true h2, decide_eq_true (by omega)]
    · rw [decide_eq_false h2, decide_eq_false (by omega)]

theorem check_tail (l : List S69) (i : Nat) (hi : i < l.length) (b : Bool) (hb : b = decide (l[i].f0.size < 1 ∨ 20 < l[i].f0.size ∨ 20 < l[i].f1.size)) (hl : l.length ≤ 40)
    (ih : Ev (fun k => rows_Check.l0 k l l (l.length : Int) ((i + 1 : Nat) : Int)) (faultFrom (some l[i].f0) (l.drop (i + 1)))) :
    Ev (fun k => rows_Check.j1 k l (i : Int) l (l.length : Int) (i : Int) b l[i].f0 l[i].f1) (faultFrom (prevOf l i) (l.drop i)) := by
  rw [List.drop_eq_getElem_cons hi]
  unfold faultFrom
  refine Ev.step (fun k => rfl) ?_
  by_cases h : l[i].f0.size < 1 ∨ 20 < l[i].f0.size ∨ 20 < l[i].f1.size
  · rw [if_pos h]
    exact Ev.pos (by rw [hb, decide_eq_true h]) (Ev.now _)
  rw [if_neg h]
  refine Ev.neg (by rw [hb, decide_eq_false h]; simp) ?_
  by_cases h4 : l[i].f1.size = 0
  · rw [if_pos h4]
    exact Ev.pos (empty_iff.2 h4) (Ev.now _)
  rw [if_neg h4]
  refine Ev.neg (fun e => h4 (empty_iff.1 e)) ?_
  have e2 : wrap64 ((i : Int) + 1) = ((i + 1 : Nat) : Int) := wrap_succ (by omega)
  by_cases h0 : i = 0
  · subst h0
    refine Ev.neg (by omega) ?_
    rw [e2]
    simpa [prevOf] using ih
  · have e1 : wrap64 ((i : Int) - 1) = ((i - 1 : Nat) : Int) := by rw [wrap_in (by omega) (by omega)]; omega
    have hp : prevOf l i = some l[i - 1].f0 := by unfold prevOf; rw [if_neg h0, List.getElem?_eq_getElem (by omega)]; rfl
    rw [hp, e1, rd69 (by omega : i - 1 < l.length), e2]
    refine Ev.pos (by omega) (Ev.pos (by omega) (Ev.pos (by omega) ?_))
    by_cases hb7 : Op.bytesLess l[i - 1].f0.toList l[i].f0.toList = true
    · rw [if_pos hb7]
      exact Ev.pos hb7 ih
    · rw [if_neg hb7]
      exact Ev.neg hb7 (Ev.now _)

theorem check_l0 (l : List S69) (hl : l.length ≤ 40) : ∀ (d i : Nat), i + d = l.length → Ev (fun k => rows_Check.l0 k l l (l.length : Int) (i : Int)) (faultFrom (prevOf l i) (l.drop i))
  | 0, i, hi => by
    rw [List.drop_of_length_le (by omega)]
    exact Ev.step (fun k => rfl) (Ev.neg (by omega) (Ev.now _))
  | d + 1, i, hi => by
    have hlt : i < l.length := by omega
    have ih := check_l0 l hl d (i + 1) (by omega)
    have hp : prevOf l (i + 1) = some l[i].f0 := by unfold prevOf; rw [if_neg (by omega), Nat.add_sub_cancel, List.getElem?_eq_getElem hlt]; rfl
    rw [hp] at ih
    refine Ev.step (fun k => rfl) (Ev.pos (by omega) (Ev.pos (by omega) (Ev.pos (by omega) ?_)))
    rw [rd69 hlt]
    refine Ev.bind (Ev.lift (key_f _)) ?_
    by_cases h : l[i].f0.size < 1 ∨ 20 < l[i].f0.size
    · rw [decide_eq_false (fun hn => hn h)]
      exact Ev.neg (by simp) (check_tail l i hlt true (by rw [decide_eq_true (by omega)]) hl ih)
    · rw [decide_eq_true h]
      refine Ev.pos rfl (check_tail l i hlt _ ?_ hl ih)
      by_cases h2 : 20 < l[i].f1.size
      · rw [decide_eq_true (by omega), decide_eq_true (by omega)]
      · rw [decide_eq_false (by omega), decide_eq_false (by omega)]
theorem check_ev (l : List S69) : Ev (fun k => rows_Check.f k l) (rowsErr l) := by
  unfold rows_Check.f rowsErr
  by_cases h : 40 < l.length
  · rw [if_pos h]; exact Ev.pos (by omega) (Ev.now _)
  · rw [if_neg h]
    exact Ev.neg (by omega) (check_l0 l (by omega) l.length 0 (by omega))

theorem fault_tail (l : List S69) (i : Nat) (hi : i < l.length) (b : Bool) (hb : b = decide (l[i].f0.size < 1 ∨ 20 < l[i].f0.size ∨ 20 < l[i].f1.size)) (hl : l.length ≤ 40)
    (ih : Ev (fun k => bagnallref_RowsFault.l0 k l l (l.length : Int) ((i + 1 : Nat) : Int)) (faultFrom (some l[i].f0) (l.drop (i + 1)))) :
    Ev (fun k => bagnallref_RowsFault.j1 k l (i : Int) l (l.length : Int) (i : Int) b l[i].f0 l[i].f1) (faultFrom (prevOf l i) (l.drop i)) := by
  rw [List.drop_eq_getElem_cons hi]
  unfold faultFrom
  refine Ev.step (fun k => rfl) ?_
  by_cases h : l[i].f0.size < 1 ∨ 20 < l[i].f0.size ∨ 20 < l[i].f1.size
  · rw [if_pos h]
    exact Ev.pos (by rw [hb, decide_eq_true h]) (Ev.now _)
  rw [if_neg h]
  refine Ev.neg (by rw [hb, decide_eq_false h]; simp) ?_
  by_cases h4 : l[i].f1.size = 0
  · rw [if_pos h4]
    exact Ev.pos (by omega) (Ev.now _)
  rw [if_neg h4]
  refine Ev.neg (by omega) ?_
  have e2 : wrap64 ((i : Int) + 1) = ((i + 1 : Nat) : Int) := wrap_succ (by omega)
  by_cases h0 : i = 0
  · subst h0
    refine Ev.neg (by omega) ?_
    rw [e2]
    simpa [prevOf] using ih
  · have e1 : wrap64 ((i : Int) - 1) = ((i - 1 : Nat) : Int) := by rw [wrap_in (by omega) (by omega)]; omega
    have hp : prevOf l i = some l[i - 1].f0 := by unfold prevOf; rw [if_neg h0, List.getElem?_eq_getElem (by omega)]; rfl
    rw [hp, e1, rd69 (by omega : i - 1 < l.length), e2]
    refine Ev.pos (by omega) (Ev.pos (by omega) (Ev.pos (by omega) ?_))
    by_cases hb7 : Op.bytesLess l[i - 1].f0.toList l[i].f0.toList = true
    · rw [if_pos hb7]
      exact Ev.pos hb7 ih
    · rw [if_neg hb7]
      exact Ev.neg hb7 (Ev.now _)
theorem fault_l0 (l : List S69) (hl : l.length ≤ 40) : ∀ (d i : Nat), i + d = l.length → Ev (fun k => bagnallref_RowsFault.l0 k l l (l.length : Int) (i : Int)) (faultFrom (prevOf l i) (l.drop i))
  | 0, i, hi => by
    rw [List.drop_of_length_le (by omega)]
    exact Ev.step (fun k => rfl) (Ev.neg (by omega) (Ev.now _))
  | d + 1, i, hi => by
    have hlt : i < l.length := by omega
    have ih := fault_l0 l hl d (i + 1) (by omega)
    have hp : prevOf l (i + 1) = some l[i].f0 := by unfold prevOf; rw [if_neg (by omega), Nat.add_sub_cancel, List.getElem?_eq_getElem hlt]; rfl
    rw [hp] at ih
    refine Ev.step (fun k => rfl) (Ev.pos (by omega) (Ev.pos (by omega) (Ev.pos (by omega) ?_)))
    rw [rd69 hlt]
    by_cases h : l[i].f0.size < 1
    · exact Ev.pos (by omega) (fault_tail l i hlt true (by rw [decide_eq_true (by omega)]) hl ih)
    refine Ev.neg (by omega) ?_
    by_cases h2 : 20 < l[i].f0.size
    · exact Ev.pos (by omega) (fault_tail l i hlt true (by rw [decide_eq_true (by omega)]) hl ih)
    refine Ev.neg (by omega) (fault_tail l i hlt _ ?_ hl ih)
    by_cases h3 : 20 < l[i].f1.size
    · rw [decide_eq_true (by omega), decide_eq_true (by omega)]
    · rw [decide_eq_false (by omega), decide_eq_false (by omega)]
theorem fault_ev (l : List S69) : Ev (fun k => bagnallref_RowsFault.f k l) (rowsErr l) := by
  unfold bagnallref_RowsFault.f rowsErr
  by_cases h : 40 < l.length
  · rw [if_pos h]; exact Ev.pos (by omega) (Ev.now _)
  · rw [if_neg h]
    exact Ev.neg (by omega) (fault_l0 l (by omega) l.length 0 (by omega))
end Go.Proofs.Ytnjidfgjldkkcaa.Plain
/- Plain words on texts as lists of numbers. No program. -/
namespace Go.Proofs.Ytnjidfgjldkkcaa.Plain
open Go.RowKit Go.Proofs.YtnjidfgjldkkcaaW.PrintWords
theorem str_bytes (s : ByteArray) : strOfNums (bytesOf s) = s := by
  unfold bytesOf
  apply Go.WideShapes.bytes_inj
  simp only [strOfNums, List.map_map]
  have e : ((fun n : Int => UInt8.ofNat n.toNat) ∘ fun b : UInt8 => (b.toNat : Int)) = id := by
    funext b
    simp
  rw [e, List.map_id]
theorem str_inj {a b : ByteArray} (h : bytesOf a = bytesOf b) : a = b := by rw [← str_bytes a, ← str_bytes b, h]
theorem str_append (xs ys : List Int) : strOfNums xs ++ strOfNums ys = strOfNums (xs ++ ys) := by
  apply Go.WideShapes.bytes_inj
  simp [strOfNums, ByteArray.data_append]
theorem bytes_extract (s : ByteArray) (a b : Nat) : bytesOf (s.extract a b) = ((bytesOf s).take b).drop a := by
  unfold bytesOf
  rw [ByteArray.data_extract, Array.toList_extract, List.map_take, List.map_drop, List.drop_take]
theorem size_bytes (s : ByteArray) : (bytesOf s).length = s.size := bytesOf_length s
theorem bt_get {s : ByteArray} {i : Nat} (h : i < s.size) : bt s (i : Int) = (bytesOf s)[i]'(by rw [size_bytes]; exact h) := by
  rw [← rd_bytesOf]; exact rd_at _
theorem toList_bytes (s : ByteArray) : bytesOf s = s.toList.map fun b => (b.toNat : Int) := by
  rw [Go.ByteArray.toList_eq]; rfl
theorem toList_inj {a b : ByteArray} : a.toList = b.toList ↔ a = b := by
  constructor
  · intro h; exact str_inj (by rw [toList_bytes, toList_bytes, h])
  · rintro rfl; rfl
end Go.Proofs.Ytnjidfgjldkkcaa.Plain
/- Plain laws of tables in the order of their keys: what a table without a fault is; where a key stands; the binary search. -/
namespace Go.Proofs.Ytnjidfgjldkkcaa.Plain
open Go.RowKit Go.Proofs.Ytnjidfgjldkkcaa.Q Go.Proofs.YtnjidfgjldkkcaaW.PrintWords

/-- One key ahead of another one. -/
def kl (a b : ByteArray) : Bool := Op.bytesLess a.toList b.toList
theorem less_irr : ∀ x : List UInt8, Op.bytesLess x x = false
  | [] => rfl
  | a :: x => by
    have := less_irr x
    have h : ¬ a < a := fun h => by have := UInt8.lt_iff_toNat_lt.1 h; omega
    simp [Op.bytesLess, this]
theorem less_trans : ∀ x y z : List UInt8, Op.bytesLess x y = true → Op.bytesLess y z = true → Op.bytesLess x z = true
  | _, _, [], _, h => by cases ‹List UInt8› <;> simp [Op.bytesLess] at h
  | _, [], _ :: _, h, _ => by cases ‹List UInt8› <;> simp [Op.bytesLess] at h
  | [], _ :: _, _ :: _, _, _ => by simp [Op.bytesLess]
  | a :: x, b :: y, c :: z, h1, h2 => by
    simp only [Op.bytesLess, Bool.or_eq_true, Bool.and_eq_true, decide_eq_true_eq, beq_iff_eq] at h1 h2 ⊢
    rcases h1 with h1 | ⟨rfl, h1⟩
    · rcases h2 with h2 | ⟨rfl, h2⟩
      · exact .inl (UInt8.lt_iff_toNat_lt.2 (by have := UInt8.lt_iff_toNat_lt.1 h1; have := UInt8.lt_iff_toNat_lt.1 h2; omega))
      · exact .inl h1
    · rcases h2 with h2 | ⟨rfl, h2⟩
      · exact .inl h2
      · exact .inr ⟨rfl, less_trans x y z h1 h2⟩
theorem kl_irr (a : ByteArray) : kl a a = false := less_irr _
theorem kl_trans {a b c : ByteArray} (h1 : kl a b = true) (h2 : kl b c = true) : kl a c = true := less_trans _ _ _ h1 h2
theorem kl_asym {a b : ByteArray} (h : kl a b = true) : kl b a = false := by
  cases h2 : kl b a
  · rfl
  · have := kl_trans h h2
    rw [kl_irr] at this
    cases this
theorem kl_tri {a b : ByteArray} (h1 : kl a b = false) (h2 : kl b a = false) : a = b := by
  have := less_or a.toList b.toList
  unfold kl at h1 h2
  rw [h1, h2] at this
  simp only [Bool.false_or, Bool.not_false, beq_iff_eq] at this
  exact toList_inj.1 this

/-- A row that may be in a table. -/
def GoodRow (r : S69) : Prop := 1 ≤ r.f0.size ∧ r.f0.size ≤ 20 ∧ 1 ≤ r.f1.size ∧ r.f1.size ≤ 20
/-- The keys ascend. -/
def Asc (l : List S69) : Prop := l.Pairwise fun a b => kl a.f0 b.f0 = true
theorem fault_zero : ∀ (p : Option ByteArray) (l : List S69), faultFrom p l = 0 → (∀ r ∈ l, GoodRow r) ∧ Asc l ∧ (∀ q, p = some q → ∀ r ∈ l, kl q r.f0 = true)
  | p, [], _ => ⟨by simp, List.Pairwise.nil, by simp⟩
  | p, r :: t, h => by
    unfold faultFrom at h
    by_cases h1 : r.f0.size < 1 ∨ 20 < r.f0.size ∨ 20 < r.f1.size
    · rw [if_pos h1] at h; exact absurd h (by decide)
    rw [if_neg h1] at h
    by_cases h2 : r.f1.size = 0
    · rw [if_pos h2] at h; exact absurd h (by decide)
    rw [if_neg h2] at h
    have key : faultFrom (some r.f0) t = 0 ∧ ∀ q, p = some q → kl q r.f0 = true := by
      cases p with
      | none => exact ⟨h, by simp⟩
      | some q =>
        replace h : (if Op.bytesLess q.toList r.f0.toList = true then faultFrom (some r.f0) t else 7) = 0 := h
        by_cases h3 : Op.bytesLess q.toList r.f0.toList = true
        · rw [if_pos h3] at h
          exact ⟨h, fun q' e => by obtain rfl := Option.some.inj e; exact h3⟩
        · rw [if_neg h3] at h; exact absurd h (by decide)
    obtain ⟨g, a, c⟩ := fault_zero (some r.f0) t key.1
    refine ⟨?_, List.Pairwise.cons (fun x hx => c _ rfl x hx) a, ?_⟩
    · intro x hx
      rcases List.mem_cons.1 hx with rfl | hx
      · exact ⟨by omega, by omega, by omega, by omega⟩
      · exact g x hx
    · intro q hq x hx
      rcases List.mem_cons.1 hx with rfl | hx
      · exact key.2 q hq
      · exact kl_trans (key.2 q hq) (c _ rfl x hx)
theorem rowsErr_zero {l : List S69} (h : rowsErr l = 0) : l.length ≤ 40 ∧ (∀ r ∈ l, GoodRow r) ∧ Asc l := by
  unfold rowsErr at h
  split at h
  · cases h
  · have := fault_zero none l h
    exact ⟨by omega, this.1, this.2.1⟩

/-- How many keys are ahead of k. -/
def cut (l : List S69) (k : ByteArray) : Nat := (l.takeWhile fun r => kl r.f0 k).length
theorem cut_le (l : List S69) (k : ByteArray) : cut l k ≤ l.length := by
  induction l with
  | nil => simp [cut]
  | cons r t ih => unfold cut at *; rw [List.takeWhile_cons]; split <;> simp; omega
theorem cut_less {l : List S69} (ha : Asc l) (k : ByteArray) : ∀ (i : Nat) (h : i < l.length), (kl l[i].f0 k = true ↔ i < cut l k) := by
  induction l with
  | nil => intro i h; simp at h
  | cons r t ih =>
    intro i h
    have ht := ih (List.Pairwise.of_cons ha)
    have hr := (List.pairwise_cons.1 ha).1
    unfold cut at *
    rw [List.takeWhile_cons]
    cases hk : kl r.f0 k
    · simp only [Bool.false_eq_true, if_false, List.length_nil, Nat.not_lt_zero, iff_false]
      cases i with
      | zero => simp [hk]
      | succ i =>
        intro hc
        simp only [List.getElem_cons_succ] at hc
        have := kl_trans (hr _ (List.getElem_mem (by simpa using h))) hc
        rw [hk] at this
        cases this
    · rw [if_pos rfl]
      cases i with
      | zero => simp [hk]
      | succ i =>
        simp only [List.getElem_cons_succ, List.length_cons, Nat.add_lt_add_iff_right]
        exact ht i (by simpa using h)
theorem bs_cut (less : Nat → Bool) (p : Nat) : ∀ (f i j : Nat), (∀ h, i ≤ h → h < j → (less h = true ↔ h < p)) → i ≤ p → p ≤ j → j - i ≤ f → bs less f i j = p
  | 0, i, j, _, h1, h2, h3 => by show i = p; omega
  | f + 1, i, j, hl, h1, h2, h3 => by
    unfold bs
    by_cases hij : i < j
    · rw [if_pos hij]
      have hh := hl ((i + j) / 2) (by omega) (by omega)
      by_cases hb : less ((i + j) / 2) = true
      · rw [if_pos hb]
        have := hh.1 hb
        exact bs_cut less p f _ j (fun h a b => hl h (by omega) b) (by omega) h2 (by omega)
      · rw [if_neg hb]
        have : ¬ (i + j) / 2 < p := fun h => hb (hh.2 h)
        exact bs_cut less p f i _ (fun h a b => hl h a (by omega)) h1 (by omega) (by omega)
    · rw [if_neg hij]; omega
theorem cmpS_neg (a k : ByteArray) : cmpS a k < 0 ↔ kl a k = true := by
  unfold cmpS kl
  constructor
  · intro h
    split at h
    · assumption
    · split at h <;> omega
  · intro h
    rw [if_pos h]; omega
theorem cmpS_zero (a k : ByteArray) : cmpS a k = 0 ↔ a = k := by
  constructor
  · intro h
    unfold cmpS at h
    split at h
    · omega
    · split at h
      · omega
      · exact kl_tri (Bool.eq_false_iff.2 ‹_›) (Bool.eq_false_iff.2 ‹_›)
  · rintro rfl
    unfold cmpS
    have := kl_irr a
    unfold kl at this
    rw [this]
    simp
theorem placeI_cut {l : List S69} (ha : Asc l) (k : ByteArray) : placeI l k = cut l k := by
  refine bs_cut _ _ _ _ _ (fun h _ hh => ?_) (Nat.zero_le _) (cut_le l k) (by omega)
  unfold lessAt
  have e : l.getD h z69 = l[h] := by rw [List.getD_eq_getElem?_getD, List.getElem?_eq_getElem hh]; rfl
  rw [e, decide_eq_true_eq, cmpS_neg]
  exact cut_less ha k h hh
theorem placeB_iff {l : List S69} (ha : Asc l) (k : ByteArray) : placeB l k = true ↔ ∃ h : cut l k < l.length, l[cut l k].f0 = k := by
  unfold placeB
  rw [placeI_cut ha, Bool.and_eq_true, decide_eq_true_eq, decide_eq_true_eq, cmpS_zero]
  constructor
  · rintro ⟨h1, h2⟩
    have e : l.getD (cut l k) z69 = l[cut l k] := by rw [List.getD_eq_getElem?_getD, List.getElem?_eq_getElem h1]; rfl
    rw [e] at h2
    exact ⟨h1, h2⟩
  · rintro ⟨h1, h2⟩
    have e : l.getD (cut l k) z69 = l[cut l k] := by rw [List.getD_eq_getElem?_getD, List.getElem?_eq_getElem h1]; rfl
    rw [e]
    exact ⟨h1, h2⟩
/-- A key that stands there stands at its place. -/
theorem cut_at {l : List S69} (ha : Asc l) {i : Nat} (h : i < l.length) : cut l l[i].f0 = i := by
  have h1 := cut_less ha l[i].f0 i h
  rw [kl_irr] at h1
  simp only [Bool.false_eq_true, false_iff, Nat.not_lt] at h1
  rcases Nat.lt_or_ge (cut l l[i].f0) i with h2 | h2
  · have h3 := cut_less ha l[i].f0 (cut l l[i].f0) (by omega)
    have h4 : kl l[cut l l[i].f0].f0 l[i].f0 = true := List.pairwise_iff_getElem.1 ha _ _ (by omega) h h2
    have := h3.1 h4
    omega
  · omega
end Go.Proofs.Ytnjidfgjldkkcaa.Plain
-- Written for this seat by a program of its session (xp.py over the kit's printer).
namespace Go.Proofs.Ytnjidfgjldkkcaa.Q
open Go.RowKit Go.Proofs.YtnjidfgjldkkcaaW.PrintWords Go.Proofs.YtnjidfgjldkkcaaW.PrintLast Go.Proofs.YtnjidfgjldkkcaaW.PrintMore
attribute [local go_sem] max2_int min2_int max_two min_two max_three min_three max_four min_four xq_geq xq_leq xq_gtr   -- for this text's walks alone
set_option linter.unusedVariables false
set_option linter.unusedSimpArgs false

/-! ### bagnallref_rowsBegin: function 47 -/
def bagnallref_rowsBegin.l0 : Nat → ByteArray → List (S69) → List (S69) → Int → Int → Option ((List (S69)))
  | 0, _, _, _, _, _ => none
  | k + 1, x1, x5, x8, x9, x10 => if x10 < x9 then (if 0 ≤ x10 then (if x10 < (x8.length : Int) then (if (((rd_T69 x8 x10).f0).size : Int) ≥ (x1.size : Int) then (if 0 ≤ (x1.size : Int) then (if (x1.size : Int) ≤ (((rd_T69 x8 x10).f0).size : Int) then (if (((rd_T69 x8 x10).f0).extract 0 x1.size).toList = x1.toList then (if x5.length < 4398046511104 then (bagnallref_rowsBegin.l0 k x1 (x5 ++ [(⟨(rd_T69 x8 x10).f0, (rd_T69 x8 x10).f1⟩ : S69)]) x8 x9 (wrap64 (x10 + 1))) else (none)) else (bagnallref_rowsBegin.l0 k x1 x5 x8 x9 (wrap64 (x10 + 1)))) else (none)) else (none)) else (bagnallref_rowsBegin.l0 k x1 x5 x8 x9 (wrap64 (x10 + 1)))) else (none)) else (none)) else (some x5)
def bagnallref_rowsBegin.f (k : Nat) (l0 : List (S69)) (a1 : ByteArray) : Option ((List (S69))) := bagnallref_rowsBegin.l0 k a1 ([] : List (S69)) l0 (l0.length : Int) 0
theorem bagnallref_rowsBegin.mono_l : ∀ k, (∀ y0 y1 y2 y3 y4, LeO (bagnallref_rowsBegin.l0 k y0 y1 y2 y3 y4) (bagnallref_rowsBegin.l0 (k + 1) y0 y1 y2 y3 y4))
  | 0 => fun _ _ _ _ _ r h => by simp [bagnallref_rowsBegin.l0] at h
  | k + 1 => by
    have ih0 := bagnallref_rowsBegin.mono_l k
    · intro y0 y1 y2 y3 y4
      unfold bagnallref_rowsBegin.l0
      repeat' first
      | (with_reducible exact ih0 _ _ _ _ _)
      | (with_reducible exact LeO.refl _)
      | (with_reducible exact LeO.none _)
      | (with_reducible refine LeO.ite ?_ ?_)
      | (with_reducible refine LeO.bind ?_ (fun _ => ?_))
      | exact ih0 _ _ _ _ _
      | exact LeO.none _
      | refine LeO.ite ?_ ?_
      | refine LeO.bind ?_ (fun _ => ?_)
theorem bagnallref_rowsBegin.mono : ∀ a0 a1 k, LeO (bagnallref_rowsBegin.f k a0 a1) (bagnallref_rowsBegin.f (k + 1) a0 a1) := by
  intro a0 a1 k
  have ih0 := bagnallref_rowsBegin.mono_l k
  unfold bagnallref_rowsBegin.f
  repeat' first
      | (with_reducible exact ih0 _ _ _ _ _)
      | (with_reducible exact LeO.refl _)
      | (with_reducible exact LeO.none _)
      | (with_reducible refine LeO.ite ?_ ?_)
      | (with_reducible refine LeO.bind ?_ (fun _ => ?_))
      | exact ih0 _ _ _ _ _
      | exact LeO.none _
      | refine LeO.ite ?_ ?_
      | refine LeO.bind ?_ (fun _ => ?_)
set_option maxHeartbeats 8000000 in
set_option maxRecDepth 100000 in
theorem bagnallref_rowsBegin.calls (k : Nat) (A0 : Option Addr) (c0 : Nat) (l0 : List (S69)) (a1 : ByteArray) (r : List (S69)) (w : World) (hr0 : Kd.C k69 w A0 l0.length l0) (hc0 : l0.length ≤ c0) (h : bagnallref_rowsBegin.f k l0 a1 = some r) :
    Calls Try.prog 47 #[.slice A0 l0.length c0, .string a1] w fun e w' => ∃ v0_ : Value, e = .returned (v0_) ∧ Kd.R k69 69 w' w.heap.size (fun _ => True) v0_ r ∧ Below w.heap.size w w' := by
  have hu69 := Try.underlying69
  have HR0 := Aside0.mk hr0
  have HC0 := Aside0.mk hc0
  clear hr0 hc0
  have HB := Aside0.mk (Below.refl w.heap.size w)
  have H : (bagnallref_rowsBegin.l0 k a1 ([] : List (S69)) l0 (l0.length : Int) 0) = some r := h
  clear h
  have H' := Aside0.mk H
  clear H
  go_enter Try.func47, Try.ntmps47
  go_wp2
  go_loopg [5, 10] k (fun kq v5 v10 w' => ∃ (x5_1 : List (S69)) (x10_1 : Int), v10 = .int .i64 x10_1 ∧ Aside0 (bagnallref_rowsBegin.l0 kq a1 x5_1 l0 (l0.length : Int) x10_1 = some r) ∧ Aside0 (kq ≤ k) ∧ Aside0 (Kd.R k69 69 w' w.heap.size (fun _ => True) v5 x5_1) ∧ Aside0 (Below w.heap.size w w'))
  case atStart => exact ⟨(([] : List (S69))), (0), (by first | rfl | (simp; done) | (simp [*]; done)), H', ⟨Nat.le_refl _⟩, ⟨by first | exact Kd.R_nil _ _ _ _ _ | exact Kd.N_nil _ _ _ _ _ | exact Kd.V_nil _ _ _ _ _ | exact Kd.Q_nil _ _ _ _ _ | exact Kd.S_nil _ _ _ _ _⟩, ⟨by repeat (first | (with_reducible first | exact HB.out | apply below_alloc | apply pw_below_drewN | apply below_drew1) | exact HB.out)⟩⟩
  case round =>
    clear H'
    try clear p2
    obtain ⟨x5_1, x10_1, rfl, HA, HK1, HO_5, HB⟩ := hrel
    cases gk with
    | zero => exact absurd HA.out (by simp [bagnallref_rowsBegin.l0])
    | succ k1 =>
      have H := HA.out
      clear HA
      simp only [bagnallref_rowsBegin.l0] at H
      by_cases c3 : x10_1 < (l0.length : Int)
      · rw [if_pos c3] at H
        have c3b0 : decide (x10_1 < (l0.length : Int)) = true := decide_eq_true c3
        clear c3
        by_cases c4 : 0 ≤ x10_1
        · rw [if_pos c4] at H
          have c4b0 : decide (0 ≤ x10_1) = true := decide_eq_true c4
          clear c4
          by_cases c5 : x10_1 < (l0.length : Int)
          · rw [if_pos c5] at H
            have c5b0 : decide (x10_1 < (l0.length : Int)) = true := decide_eq_true c5
            clear c5
            by_cases c6 : (((rd_T69 l0 x10_1).f0).size : Int) ≥ (a1.size : Int)
            · rw [if_pos c6] at H
              have c6b0 : decide ((a1.size : Int) ≤ (((rd_T69 l0 x10_1).f0).size : Int)) = true := decide_eq_true c6
              have c6b1 : decide (a1.size ≤ ((rd_T69 l0 x10_1).f0).size) = true := decide_eq_true (Int.ofNat_le.mp c6)
              clear c6
              by_cases c7 : 0 ≤ (a1.size : Int)
              · rw [if_pos c7] at H
                have c7b0 := eq_true c7
                have c7b1 : decide (0 ≤ (a1.size : Int)) = true := decide_eq_true c7
                clear c7
                by_cases c8 : (a1.size : Int) ≤ (((rd_T69 l0 x10_1).f0).size : Int)
                · rw [if_pos c8] at H
                  have c8b0 := eq_true c8
                  have c8b1 : decide ((a1.size : Int) ≤ (((rd_T69 l0 x10_1).f0).size : Int)) = true := decide_eq_true c8
                  clear c8
                  by_cases c9 : (((rd_T69 l0 x10_1).f0).extract 0 a1.size).toList = a1.toList
                  · rw [if_pos c9] at H
                    have c9b0 : ((((rd_T69 l0 x10_1).f0).extract 0 a1.size).toList == a1.toList) = true := beq_iff_eq.mpr c9
                    have c9b1 : ((((rd_T69 l0 x10_1).f0).extract 0 a1.size).toList != a1.toList) = false := bne_eq_false_iff_eq.mpr c9
                    clear c9
                    by_cases c10 : x5_1.length < 4398046511104
                    · rw [if_pos c10] at H
                      have LMc10 := Aside0.mk c10
                      clear c10
                      obtain ⟨y139, hy139⟩ : ∃ y_ : List (S69), y_ = (x5_1 ++ [(⟨(rd_T69 l0 x10_1).f0, (rd_T69 l0 x10_1).f1⟩ : S69)]) := ⟨_, rfl⟩
                      replace H : (bagnallref_rowsBegin.l0 k1 a1 y139 l0 (l0.length : Int) (wrap64 (x10_1 + 1))) = some r := by first | (rw [hy139]; with_reducible exact H) | (have H2_ := (Option.bind_some _ _).symm.trans H; rw [hy139]; with_reducible exact H2_) | (have H2_ := (Option.bind_some _ _).symm.trans H; with_reducible exact H2_) | with_reducible exact H | (rw [hy139]; exact H) | exact H
                      have Ny139 := Aside0.mk hy139
                      clear hy139
                      have H' := Aside0.mk H
                      clear H
                      have p137 : 0 ≤ (x10_1 : Int) := of_decide_eq_true (by first | (with_reducible assumption) | assumption)
                      have q137 : x10_1 < (l0.length : Int) := of_decide_eq_true (by first | (with_reducible assumption) | assumption)
                      obtain ⟨ad137, e137, hx137_0, hx137_1⟩ := at_T69 HR0.out x10_1 p137 q137
                      cases e137
                      replace hx137_0 := (HB.out.cell (World.block_lt_of_cell? w _ hx137_0)).trans hx137_0
                      replace hx137_1 := (HB.out.cell (World.block_lt_of_cell? w _ hx137_1)).trans hx137_1
                      replace p137 := eq_true p137
                      replace q137 := eq_true q137
                      go_wp2_with (first | ((with_reducible refine gate_dst (N := 7) rfl ?_); (try (refine gate_guard (by rfl) ?_; dsimp only)); refine box_event ?hg (N := 7) ?hd (cs := #[.string (⟨#[]⟩ : ByteArray), .string (⟨#[]⟩ : ByteArray)]) (t := 69) ?hr ?_; (case hd => rfl); (case hg => rfl); (case hr => first | (go_simp; done) | (go_simp; rfl)); intro gb138 hg w11 hbox hb; have n0_ := Aside0.mk (Kd.R_below (Kd.R_elderB (by (with_reducible repeat (first | apply Kd.R_alloc | apply Kd.R_drewN | apply Kd.R_drew)); exact HO_5.out) gb138 (Nat.le_of_eq hg.symm)) hb); have n1_ := Aside0.mk (below_step (by repeat (first | (with_reducible first | exact HB.out | apply below_alloc | apply pw_below_drewN | apply below_drew1) | exact HB.out)) hb); have n2_ := Aside0.mk (hbox); have n3_ := Aside0.mk ((by rw [hg]; exact (below_size (by repeat (first | (with_reducible first | exact HB.out | apply below_alloc | apply pw_below_drewN | apply below_drew1) | exact HB.out))) : w.heap.size ≤ gb138)); have n4_ := Aside0.mk ((by rw [hg]; exact (below_size (by repeat (first | (with_reducible first | exact HB.out | apply below_alloc | apply pw_below_drewN | apply below_drew1) | exact HB.out))) : w.heap.size ≤ gb138)); clear HO_5; clear HB; have HO_5 := n0_; have HB := n1_; have BK138 := n2_; have GW138 := n3_; have GE138 := n4_; clear n0_ n1_ n2_ n3_ n4_; clear hb hbox hg; have hcz12_0 : w11.cell? ⟨gb138, 0, none⟩ = some (.string (⟨#[]⟩ : ByteArray)) := (blk_cell BK138.out 0).trans rfl; have hcz12_1 : w11.cell? ⟨gb138, 1, none⟩ = some (.string (⟨#[]⟩ : ByteArray)) := (blk_cell BK138.out 1).trans rfl; have hfz12_0 := blk_frozen BK138.out 0; have hfz12_1 := blk_frozen BK138.out 1) | ((with_reducible refine gate_builtin (b := .append) (xs := #[.tmp 29, .tmp 31]) rfl ?_); (try (refine gate_guard (by rfl) ?_; dsimp only)); at_builtin; refine Kd.R_append k69 (w0 := w) w.heap.size rfl (.tmp 29) (.tmp 31) 24 69 (.agg #[(.string ⟨#[]⟩), (.string ⟨#[]⟩)]) 32 rfl Try.underlying24 info69 rfl (by decide) (by omega) u5 x5_1 (⟨(rd_T69 l0 x10_1).f0, (rd_T69 l0 x10_1).f1⟩ : S69) [.string ((rd_T69 l0 x10_1).f0), .string ((rd_T69 l0 x10_1).f1)] (fun k_ => k_ ≠ gb138) (fun _ => False) rfl (by first | (go_simp; done) | (go_simp; rfl)) ?aP (fun _ hk => hk.elim) ?aF ?aO ?aB ?aS ?aL ?_; (case aP => exact k69_mkM _ _ _ (⟨(rd_T69 l0 x10_1).f0, (rd_T69 l0 x10_1).f1⟩ : S69)); (case aB => exact (by repeat (first | (with_reducible first | exact HB.out | apply below_alloc | apply pw_below_drewN | apply below_drew1 | refine below_set ?_ GE138.out) | exact HB.out))); (case aF => exact (fun k_ hk => Kd.freshB (g := gb138) (o := .cells #[.string ((rd_T69 l0 x10_1).f0), .string ((rd_T69 l0 x10_1).f1)] 69 (0, 0)) (by (with_reducible repeat (first | refine blk_drewN ?_ _ | refine blk_drew ?_ | refine blk_alloc ?_ _)); refine blk_put (cs := #[.string ((rd_T69 l0 x10_1).f0), .string (⟨#[]⟩ : ByteArray)]) ?_ 1 _ rfl; (with_reducible repeat (first | refine blk_drewN ?_ _ | refine blk_drew ?_ | refine blk_alloc ?_ _)); refine blk_put (cs := #[.string (⟨#[]⟩ : ByteArray), .string (⟨#[]⟩ : ByteArray)]) ?_ 0 _ rfl; (with_reducible repeat (first | refine blk_drewN ?_ _ | refine blk_drew ?_ | refine blk_alloc ?_ _)); exact BK138.out) k_ hk)); (case aO => exact (by (with_reducible repeat (first | apply Kd.R_alloc | apply Kd.R_drewN | apply Kd.R_drew)); exact Kd.R_mono (Kd.R_far (p := ⟨gb138, 1, none⟩) (Kd.R_far (p := ⟨gb138, 0, none⟩) (Kd.R_mono HO_5.out (fun k_ hk => (⟨hk, hk.2⟩ : _ ∧ k_ ≠ gb138))) (fun _ hk => hk.2) (.string ((rd_T69 l0 x10_1).f0))) (fun _ hk => hk.2) (.string ((rd_T69 l0 x10_1).f1))) (fun _ hk => hk.1.2))); (case aS => exact (below_size (by repeat (first | (with_reducible first | exact HB.out | apply below_alloc | apply pw_below_drewN | apply below_drew1 | refine below_set ?_ GE138.out) | exact HB.out)))); (case aL => have := LMc10.out; omega); intro v140 w13 ho hb hg hat; rw [← Ny139.out] at ho; have n0_ := Aside0.mk (blk_grown (g := gb138) (o := .cells #[.string ((rd_T69 l0 x10_1).f0), .string ((rd_T69 l0 x10_1).f1)] 69 (0, 0)) (by (with_reducible repeat (first | refine blk_drewN ?_ _ | refine blk_drew ?_ | refine blk_alloc ?_ _)); refine blk_put (cs := #[.string ((rd_T69 l0 x10_1).f0), .string (⟨#[]⟩ : ByteArray)]) ?_ 1 _ rfl; (with_reducible repeat (first | refine blk_drewN ?_ _ | refine blk_drew ?_ | refine blk_alloc ?_ _)); refine blk_put (cs := #[.string (⟨#[]⟩ : ByteArray), .string (⟨#[]⟩ : ByteArray)]) ?_ 0 _ rfl; (with_reducible repeat (first | refine blk_drewN ?_ _ | refine blk_drew ?_ | refine blk_alloc ?_ _)); exact BK138.out) hg (Kd.R_away HO_5.out (fun _ hk => hk.2))); have n1_ := Aside0.mk (hb); have n2_ := Aside0.mk (ho); clear BK138; clear HB; clear HO_5; have BK138 := n0_; have HB := n1_; have HO141 := n2_; clear n0_ n1_ n2_; clear ho hb hg hat))
                      go_roundg k1
                      case measure => have := HK1.out; omega
                      case rel => exact ⟨(y139), (wrap64 (x10_1 + 1)), (by first | rfl | (simp; done) | (simp [*]; done)), H', ⟨by have := HK1.out; omega⟩, ⟨by (with_reducible repeat (first | apply Kd.R_alloc | apply Kd.R_drewN | apply Kd.R_drew)); exact Kd.R_mono HO141.out (fun _ hk => trivial)⟩, ⟨by repeat (first | (with_reducible first | exact HB.out | apply below_alloc | apply pw_below_drewN | apply below_drew1 | refine below_set ?_ GE138.out) | exact HB.out)⟩⟩
                    · rw [if_neg c10] at H
                      exact absurd H (by simp)
                  · rw [if_neg c9] at H
                    have c9b0 : ((((rd_T69 l0 x10_1).f0).extract 0 a1.size).toList == a1.toList) = false := beq_eq_false_iff_ne.mpr c9
                    have c9b1 : ((((rd_T69 l0 x10_1).f0).extract 0 a1.size).toList != a1.toList) = true := bne_iff_ne.mpr c9
                    have H' := Aside0.mk H
                    clear H
                    have p137 : 0 ≤ (x10_1 : Int) := of_decide_eq_true (by first | (with_reducible assumption) | assumption)
                    have q137 : x10_1 < (l0.length : Int) := of_decide_eq_true (by first | (with_reducible assumption) | assumption)
                    obtain ⟨ad137, e137, hx137_0, hx137_1⟩ := at_T69 HR0.out x10_1 p137 q137
                    cases e137
                    replace hx137_0 := (HB.out.cell (World.block_lt_of_cell? w _ hx137_0)).trans hx137_0
                    replace hx137_1 := (HB.out.cell (World.block_lt_of_cell? w _ hx137_1)).trans hx137_1
                    replace p137 := eq_true p137
                    replace q137 := eq_true q137
                    go_wp2_with (first | ((with_reducible refine gate_dst (N := 7) rfl ?_); (try (refine gate_guard (by rfl) ?_; dsimp only)); refine box_event ?hg (N := 7) ?hd (cs := #[.string (⟨#[]⟩ : ByteArray), .string (⟨#[]⟩ : ByteArray)]) (t := 69) ?hr ?_; (case hd => rfl); (case hg => rfl); (case hr => first | (go_simp; done) | (go_simp; rfl)); intro gb138 hg w14 hbox hb; have n0_ := Aside0.mk (Kd.R_below (Kd.R_elderB (by (with_reducible repeat (first | apply Kd.R_alloc | apply Kd.R_drewN | apply Kd.R_drew)); exact HO_5.out) gb138 (Nat.le_of_eq hg.symm)) hb); have n1_ := Aside0.mk (below_step (by repeat (first | (with_reducible first | exact HB.out | apply below_alloc | apply pw_below_drewN | apply below_drew1) | exact HB.out)) hb); have n2_ := Aside0.mk (hbox); have n3_ := Aside0.mk ((by rw [hg]; exact (below_size (by repeat (first | (with_reducible first | exact HB.out | apply below_alloc | apply pw_below_drewN | apply below_drew1) | exact HB.out))) : w.heap.size ≤ gb138)); have n4_ := Aside0.mk ((by rw [hg]; exact (below_size (by repeat (first | (with_reducible first | exact HB.out | apply below_alloc | apply pw_below_drewN | apply below_drew1) | exact HB.out))) : w.heap.size ≤ gb138)); clear HO_5; clear HB; have HO_5 := n0_; have HB := n1_; have BK138 := n2_; have GW138 := n3_; have GE138 := n4_; clear n0_ n1_ n2_ n3_ n4_; clear hb hbox hg; have hcz15_0 : w14.cell? ⟨gb138, 0, none⟩ = some (.string (⟨#[]⟩ : ByteArray)) := (blk_cell BK138.out 0).trans rfl; have hcz15_1 : w14.cell? ⟨gb138, 1, none⟩ = some (.string (⟨#[]⟩ : ByteArray)) := (blk_cell BK138.out 1).trans rfl; have hfz15_0 := blk_frozen BK138.out 0; have hfz15_1 := blk_frozen BK138.out 1))
                    go_roundg k1
                    case measure => have := HK1.out; omega
                    case rel => exact ⟨(x5_1), (wrap64 (x10_1 + 1)), (by first | rfl | (simp; done) | (simp [*]; done)), H', ⟨by have := HK1.out; omega⟩, ⟨by (with_reducible repeat (first | apply Kd.R_alloc | apply Kd.R_drewN | apply Kd.R_drew)); exact Kd.R_mono (Kd.R_far (p := ⟨gb138, 1, none⟩) (Kd.R_far (p := ⟨gb138, 0, none⟩) (Kd.R_mono HO_5.out (fun k_ hk => (⟨hk, hk.2⟩ : _ ∧ k_ ≠ gb138))) (fun _ hk => hk.2) (.string ((rd_T69 l0 x10_1).f0))) (fun _ hk => hk.2) (.string ((rd_T69 l0 x10_1).f1))) (fun _ hk => trivial)⟩, ⟨by repeat (first | (with_reducible first | exact HB.out | apply below_alloc | apply pw_below_drewN | apply below_drew1 | refine below_set ?_ GE138.out) | exact HB.out)⟩⟩
                · rw [if_neg c8] at H
                  exact absurd H (by simp)
              · rw [if_neg c7] at H
                exact absurd H (by simp)
            · rw [if_neg c6] at H
              have c6b0 : decide ((a1.size : Int) ≤ (((rd_T69 l0 x10_1).f0).size : Int)) = false := decide_eq_false c6
              have c6b1 : decide (a1.size ≤ ((rd_T69 l0 x10_1).f0).size) = false := decide_eq_false (fun h => c6 (Int.ofNat_le.mpr h))
              clear c6
              have H' := Aside0.mk H
              clear H
              have p137 : 0 ≤ (x10_1 : Int) := of_decide_eq_true (by first | (with_reducible assumption) | assumption)
              have q137 : x10_1 < (l0.length : Int) := of_decide_eq_true (by first | (with_reducible assumption) | assumption)
              obtain ⟨ad137, e137, hx137_0, hx137_1⟩ := at_T69 HR0.out x10_1 p137 q137
              cases e137
              replace hx137_0 := (HB.out.cell (World.block_lt_of_cell? w _ hx137_0)).trans hx137_0
              replace hx137_1 := (HB.out.cell (World.block_lt_of_cell? w _ hx137_1)).trans hx137_1
              replace p137 := eq_true p137
              replace q137 := eq_true q137
              go_wp2_with (first | ((with_reducible refine gate_dst (N := 7) rfl ?_); (try (refine gate_guard (by rfl) ?_; dsimp only)); refine box_event ?hg (N := 7) ?hd (cs := #[.string (⟨#[]⟩ : ByteArray), .string (⟨#[]⟩ : ByteArray)]) (t := 69) ?hr ?_; (case hd => rfl); (case hg => rfl); (case hr => first | (go_simp; done) | (go_simp; rfl)); intro gb138 hg w16 hbox hb; have n0_ := Aside0.mk (Kd.R_below (Kd.R_elderB (by (with_reducible repeat (first | apply Kd.R_alloc | apply Kd.R_drewN | apply Kd.R_drew)); exact HO_5.out) gb138 (Nat.le_of_eq hg.symm)) hb); have n1_ := Aside0.mk (below_step (by repeat (first | (with_reducible first | exact HB.out | apply below_alloc | apply pw_below_drewN | apply below_drew1) | exact HB.out)) hb); have n2_ := Aside0.mk (hbox); have n3_ := Aside0.mk ((by rw [hg]; exact (below_size (by repeat (first | (with_reducible first | exact HB.out | apply below_alloc | apply pw_below_drewN | apply below_drew1) | exact HB.out))) : w.heap.size ≤ gb138)); have n4_ := Aside0.mk ((by rw [hg]; exact (below_size (by repeat (first | (with_reducible first | exact HB.out | apply below_alloc | apply pw_below_drewN | apply below_drew1) | exact HB.out))) : w.heap.size ≤ gb138)); clear HO_5; clear HB; have HO_5 := n0_; have HB := n1_; have BK138 := n2_; have GW138 := n3_; have GE138 := n4_; clear n0_ n1_ n2_ n3_ n4_; clear hb hbox hg; have hcz17_0 : w16.cell? ⟨gb138, 0, none⟩ = some (.string (⟨#[]⟩ : ByteArray)) := (blk_cell BK138.out 0).trans rfl; have hcz17_1 : w16.cell? ⟨gb138, 1, none⟩ = some (.string (⟨#[]⟩ : ByteArray)) := (blk_cell BK138.out 1).trans rfl; have hfz17_0 := blk_frozen BK138.out 0; have hfz17_1 := blk_frozen BK138.out 1))
              go_roundg k1
              case measure => have := HK1.out; omega
              case rel => exact ⟨(x5_1), (wrap64 (x10_1 + 1)), (by first | rfl | (simp; done) | (simp [*]; done)), H', ⟨by have := HK1.out; omega⟩, ⟨by (with_reducible repeat (first | apply Kd.R_alloc | apply Kd.R_drewN | apply Kd.R_drew)); exact Kd.R_mono (Kd.R_far (p := ⟨gb138, 1, none⟩) (Kd.R_far (p := ⟨gb138, 0, none⟩) (Kd.R_mono HO_5.out (fun k_ hk => (⟨hk, hk.2⟩ : _ ∧ k_ ≠ gb138))) (fun _ hk => hk.2) (.string ((rd_T69 l0 x10_1).f0))) (fun _ hk => hk.2) (.string ((rd_T69 l0 x10_1).f1))) (fun _ hk => trivial)⟩, ⟨by repeat (first | (with_reducible first | exact HB.out | apply below_alloc | apply pw_below_drewN | apply below_drew1 | refine below_set ?_ GE138.out) | exact HB.out)⟩⟩
          · rw [if_neg c5] at H
            exact absurd H (by simp)
        · rw [if_neg c4] at H
          exact absurd H (by simp)
      · rw [if_neg c3] at H
        have c3b0 : decide (x10_1 < (l0.length : Int)) = false := decide_eq_false c3
        clear c3
        obtain rfl := Option.some.inj H
        go_wp2
        go_ret
        exact ⟨_, by first | rfl | (simp [errW_none, errW_some] <;> rfl) | (simp [*, errW_none, errW_some] <;> rfl), by (with_reducible repeat (first | apply Kd.R_alloc | apply Kd.R_drewN | apply Kd.R_drew)); exact HO_5.out, by repeat (first | (with_reducible first | exact HB.out | apply below_alloc | apply pw_below_drewN | apply below_drew1) | exact HB.out)⟩

/-! ### bagnallref_RowsFind: function 21 -/
def bagnallref_RowsFind.l0 : Nat → ByteArray → List (S69) → Int → Int → Option (ByteArray × Int)
  | 0, _, _, _, _ => none
  | k + 1, x1, x14, x15, x16 => if x16 < x15 then (if 0 ≤ x16 then (if x16 < (x14.length : Int) then (if ((rd_T69 x14 x16).f0).toList = x1.toList then (some ((rd_T69 x14 x16).f1, 0)) else (bagnallref_RowsFind.l0 k x1 x14 x15 (wrap64 (x16 + 1)))) else (none)) else (none)) else (some ((⟨#[]⟩ : ByteArray), 8))
def bagnallref_RowsFind.f (k : Nat) (l0 : List (S69)) (a1 : ByteArray) : Option (ByteArray × Int) := (bagnallref_RowsFault.f k l0).bind fun t142 => (if t142 = 0 then (bagnallref_RowsFind.l0 k a1 l0 (l0.length : Int) 0) else (some ((⟨#[]⟩ : ByteArray), t142)))
theorem bagnallref_RowsFind.mono_l : ∀ k, (∀ y0 y1 y2 y3, LeO (bagnallref_RowsFind.l0 k y0 y1 y2 y3) (bagnallref_RowsFind.l0 (k + 1) y0 y1 y2 y3))
  | 0 => fun _ _ _ _ r h => by simp [bagnallref_RowsFind.l0] at h
  | k + 1 => by
    have ih0 := bagnallref_RowsFind.mono_l k
    · intro y0 y1 y2 y3
      unfold bagnallref_RowsFind.l0
      repeat' first
      | (with_reducible exact ih0 _ _ _ _)
      | (with_reducible exact bagnallref_RowsFault.mono _ _)
      | (with_reducible exact LeO.refl _)
      | (with_reducible exact LeO.none _)
      | (with_reducible refine LeO.ite ?_ ?_)
      | (with_reducible refine LeO.bind ?_ (fun _ => ?_))
      | exact ih0 _ _ _ _
      | exact bagnallref_RowsFault.mono _ _
      | exact LeO.none _
      | refine LeO.ite ?_ ?_
      | refine LeO.bind ?_ (fun _ => ?_)
theorem bagnallref_RowsFind.mono : ∀ a0 a1 k, LeO (bagnallref_RowsFind.f k a0 a1) (bagnallref_RowsFind.f (k + 1) a0 a1) := by
  intro a0 a1 k
  have ih0 := bagnallref_RowsFind.mono_l k
  unfold bagnallref_RowsFind.f
  repeat' first
      | (with_reducible exact ih0 _ _ _ _)
      | (with_reducible exact bagnallref_RowsFault.mono _ _)
      | (with_reducible exact LeO.refl _)
      | (with_reducible exact LeO.none _)
      | (with_reducible refine LeO.ite ?_ ?_)
      | (with_reducible refine LeO.bind ?_ (fun _ => ?_))
      | exact ih0 _ _ _ _
      | exact bagnallref_RowsFault.mono _ _
      | exact LeO.none _
      | refine LeO.ite ?_ ?_
      | refine LeO.bind ?_ (fun _ => ?_)
set_option maxHeartbeats 8000000 in
set_option maxRecDepth 100000 in
theorem bagnallref_RowsFind.calls (k : Nat) (A0 : Option Addr) (c0 : Nat) (l0 : List (S69)) (a1 : ByteArray) (r1 : ByteArray) (r2 : Int) (w : World) (hr0 : Kd.C k69 w A0 l0.length l0) (hc0 : l0.length ≤ c0) (h : bagnallref_RowsFind.f k l0 a1 = some (r1, r2)) :
    Calls Try.prog 21 #[.slice A0 l0.length c0, .string a1] w fun e w' => e = .returned (.tuple #[.string r1, .int .i64 r2]) ∧ Below w.heap.size w w' := by
  have hu69 := Try.underlying69
  have HR0 := Aside0.mk hr0
  have HC0 := Aside0.mk hc0
  clear hr0 hc0
  have HB := Aside0.mk (Below.refl w.heap.size w)
  have H : ((bagnallref_RowsFault.f k l0).bind fun t142 => (if t142 = 0 then (bagnallref_RowsFind.l0 k a1 l0 (l0.length : Int) 0) else (some ((⟨#[]⟩ : ByteArray), t142)))) = some (r1, r2) := h
  clear h
  replace H := Option.bind_eq_some_iff.mp H
  obtain ⟨t142, A30, H⟩ := H
  replace H : (if t142 = 0 then (bagnallref_RowsFind.l0 k a1 l0 (l0.length : Int) 0) else (some ((⟨#[]⟩ : ByteArray), t142))) = some (r1, r2) := H
  have A3 := Aside0.mk A30
  clear A30
  by_cases c4 : t142 = 0
  · rw [if_pos c4] at H
    have c4b0 : (t142 == 0) = true := beq_iff_eq.mpr c4
    have c4b1 : (t142 != 0) = false := bne_eq_false_iff_eq.mpr c4
    clear c4
    have H' := Aside0.mk H
    clear H
    go_enter Try.func21, Try.ntmps21
    go_wp2_with (first | ((with_reducible refine gate_callee (f := 19) rfl ?_); refine goesL_ (some 10) rfl rfl Try.func19 (by kernel_rfl) rfl #[.slice A0 l0.length c0] rfl (by (try simp only [List.map_toArray, List.map_cons, List.map_nil]); first | done | rfl | (simp only [List.length_drop, List.length_take]; rfl)) ?_; (with_reducible refine (bagnallref_RowsFault.calls k _ _ l0 t142 _ ?side1 ?side2 A3.out).mono ?_); (case side1 => repeat (first | exact HR0.out | (with_reducible refine Kd.C_alloc ?_ _) | (with_reducible refine Kd.C_drewN ?_ _) | (with_reducible refine Kd.C_drew ?_))); (case side2 => exact HC0.out); rintro e w5 ⟨rfl, hb⟩; refine ⟨_, rfl, ?_⟩; have n0_ := Aside0.mk (below_step (by repeat (first | (with_reducible first | exact HB.out | apply below_alloc | apply pw_below_drewN | apply below_drew1) | exact HB.out)) hb); clear HB; have HB := n0_; clear n0_; (try clear hb); (try clear hb2); (try clear hk); (try clear hi)))
    go_loopg [16] k (fun kq v16 w' => ∃ (x16_1 : Int), v16 = .int .i64 x16_1 ∧ Aside0 (bagnallref_RowsFind.l0 kq a1 l0 (l0.length : Int) x16_1 = some (r1, r2)) ∧ Aside0 (kq ≤ k) ∧ Aside0 (Below w.heap.size w w'))
    case atStart => exact ⟨(0), (by first | rfl | (simp; done) | (simp [*]; done)), H', ⟨Nat.le_refl _⟩, ⟨by repeat (first | (with_reducible first | exact HB.out | apply below_alloc | apply pw_below_drewN | apply below_drew1) | exact HB.out)⟩⟩
    case round =>
      clear H'
      try clear c1
      try clear c2
      try clear p2
      try clear c4
      try clear c4b0
      try clear c4b1
      obtain ⟨x16_1, rfl, HA, HK1, HB⟩ := hrel
      cases gk with
      | zero => exact absurd HA.out (by simp [bagnallref_RowsFind.l0])
      | succ k1 =>
        have H := HA.out
        clear HA
        simp only [bagnallref_RowsFind.l0] at H
        by_cases c6 : x16_1 < (l0.length : Int)
        · rw [if_pos c6] at H
          have c6b0 : decide (x16_1 < (l0.length : Int)) = true := decide_eq_true c6
          clear c6
          by_cases c7 : 0 ≤ x16_1
          · rw [if_pos c7] at H
            have c7b0 : decide (0 ≤ x16_1) = true := decide_eq_true c7
            clear c7
            by_cases c8 : x16_1 < (l0.length : Int)
            · rw [if_pos c8] at H
              have c8b0 : decide (x16_1 < (l0.length : Int)) = true := decide_eq_true c8
              clear c8
              by_cases c9 : ((rd_T69 l0 x16_1).f0).toList = a1.toList
              · rw [if_pos c9] at H
                have c9b0 : (((rd_T69 l0 x16_1).f0).toList == a1.toList) = true := beq_iff_eq.mpr c9
                have c9b1 : (((rd_T69 l0 x16_1).f0).toList != a1.toList) = false := bne_eq_false_iff_eq.mpr c9
                clear c9
                simp only [Option.some.injEq, Prod.mk.injEq] at H
                obtain ⟨rfl, rfl⟩ := H
                have p143 : 0 ≤ (x16_1 : Int) := of_decide_eq_true (by first | (with_reducible assumption) | assumption)
                have q143 : x16_1 < (l0.length : Int) := of_decide_eq_true (by first | (with_reducible assumption) | assumption)
                obtain ⟨ad143, e143, hx143_0, hx143_1⟩ := at_T69 HR0.out x16_1 p143 q143
                cases e143
                replace hx143_0 := (HB.out.cell (World.block_lt_of_cell? w _ hx143_0)).trans hx143_0
                replace hx143_1 := (HB.out.cell (World.block_lt_of_cell? w _ hx143_1)).trans hx143_1
                replace p143 := eq_true p143
                replace q143 := eq_true q143
                go_wp2_with (first | ((with_reducible refine gate_dst (N := 8) rfl ?_); refine box_event ?hg (N := 8) ?hd (cs := #[.string (⟨#[]⟩ : ByteArray), .string (⟨#[]⟩ : ByteArray)]) (t := 69) ?hr ?_; (case hd => rfl); (case hg => rfl); (case hr => first | (go_simp; done) | (go_simp; rfl)); intro gb144 hg w10 hbox hb; have n0_ := Aside0.mk (below_step (by repeat (first | (with_reducible first | exact HB.out | apply below_alloc | apply pw_below_drewN | apply below_drew1) | exact HB.out)) hb); have n1_ := Aside0.mk (hbox); have n2_ := Aside0.mk ((by rw [hg]; exact (below_size (by repeat (first | (with_reducible first | exact HB.out | apply below_alloc | apply pw_below_drewN | apply below_drew1) | exact HB.out))) : w.heap.size ≤ gb144)); have n3_ := Aside0.mk ((by rw [hg]; exact (below_size (by repeat (first | (with_reducible first | exact HB.out | apply below_alloc | apply pw_below_drewN | apply below_drew1) | exact HB.out))) : w.heap.size ≤ gb144)); clear HB; have HB := n0_; have BK144 := n1_; have GW144 := n2_; have GE144 := n3_; clear n0_ n1_ n2_ n3_; clear hb hbox hg; have hcz11_0 : w10.cell? ⟨gb144, 0, none⟩ = some (.string (⟨#[]⟩ : ByteArray)) := (blk_cell BK144.out 0).trans rfl; have hcz11_1 : w10.cell? ⟨gb144, 1, none⟩ = some (.string (⟨#[]⟩ : ByteArray)) := (blk_cell BK144.out 1).trans rfl; have hfz11_0 := blk_frozen BK144.out 0; have hfz11_1 := blk_frozen BK144.out 1))
                go_ret2
                exact ⟨by first | rfl | (simp [errW_none, errW_some] <;> rfl) | (simp [*, errW_none, errW_some] <;> rfl), by repeat (first | (with_reducible first | exact HB.out | apply below_alloc | apply pw_below_drewN | apply below_drew1 | refine below_set ?_ GE144.out) | exact HB.out)⟩
              · rw [if_neg c9] at H
                have c9b0 : (((rd_T69 l0 x16_1).f0).toList == a1.toList) = false := beq_eq_false_iff_ne.mpr c9
                have c9b1 : (((rd_T69 l0 x16_1).f0).toList != a1.toList) = true := bne_iff_ne.mpr c9
                have H' := Aside0.mk H
                clear H
                have p143 : 0 ≤ (x16_1 : Int) := of_decide_eq_true (by first | (with_reducible assumption) | assumption)
                have q143 : x16_1 < (l0.length : Int) := of_decide_eq_true (by first | (with_reducible assumption) | assumption)
                obtain ⟨ad143, e143, hx143_0, hx143_1⟩ := at_T69 HR0.out x16_1 p143 q143
                cases e143
                replace hx143_0 := (HB.out.cell (World.block_lt_of_cell? w _ hx143_0)).trans hx143_0
                replace hx143_1 := (HB.out.cell (World.block_lt_of_cell? w _ hx143_1)).trans hx143_1
                replace p143 := eq_true p143
                replace q143 := eq_true q143
                go_wp2_with (first | ((with_reducible refine gate_dst (N := 8) rfl ?_); refine box_event ?hg (N := 8) ?hd (cs := #[.string (⟨#[]⟩ : ByteArray), .string (⟨#[]⟩ : ByteArray)]) (t := 69) ?hr ?_; (case hd => rfl); (case hg => rfl); (case hr => first | (go_simp; done) | (go_simp; rfl)); intro gb144 hg w12 hbox hb; have n0_ := Aside0.mk (below_step (by repeat (first | (with_reducible first | exact HB.out | apply below_alloc | apply pw_below_drewN | apply below_drew1) | exact HB.out)) hb); have n1_ := Aside0.mk (hbox); have n2_ := Aside0.mk ((by rw [hg]; exact (below_size (by repeat (first | (with_reducible first | exact HB.out | apply below_alloc | apply pw_below_drewN | apply below_drew1) | exact HB.out))) : w.heap.size ≤ gb144)); have n3_ := Aside0.mk ((by rw [hg]; exact (below_size (by repeat (first | (with_reducible first | exact HB.out | apply below_alloc | apply pw_below_drewN | apply below_drew1) | exact HB.out))) : w.heap.size ≤ gb144)); clear HB; have HB := n0_; have BK144 := n1_; have GW144 := n2_; have GE144 := n3_; clear n0_ n1_ n2_ n3_; clear hb hbox hg; have hcz13_0 : w12.cell? ⟨gb144, 0, none⟩ = some (.string (⟨#[]⟩ : ByteArray)) := (blk_cell BK144.out 0).trans rfl; have hcz13_1 : w12.cell? ⟨gb144, 1, none⟩ = some (.string (⟨#[]⟩ : ByteArray)) := (blk_cell BK144.out 1).trans rfl; have hfz13_0 := blk_frozen BK144.out 0; have hfz13_1 := blk_frozen BK144.out 1))
                go_roundg k1
                case measure => have := HK1.out; omega
                case rel => exact ⟨(wrap64 (x16_1 + 1)), (by first | rfl | (simp; done) | (simp [*]; done)), H', ⟨by have := HK1.out; omega⟩, ⟨by repeat (first | (with_reducible first | exact HB.out | apply below_alloc | apply pw_below_drewN | apply below_drew1 | refine below_set ?_ GE144.out) | exact HB.out)⟩⟩
            · rw [if_neg c8] at H
              exact absurd H (by simp)
          · rw [if_neg c7] at H
            exact absurd H (by simp)
        · rw [if_neg c6] at H
          have c6b0 : decide (x16_1 < (l0.length : Int)) = false := decide_eq_false c6
          clear c6
          simp only [Option.some.injEq, Prod.mk.injEq] at H
          obtain ⟨rfl, rfl⟩ := H
          go_wp2
          go_ret2
          exact ⟨by first | rfl | (simp [errW_none, errW_some] <;> rfl) | (simp [*, errW_none, errW_some] <;> rfl), by repeat (first | (with_reducible first | exact HB.out | apply below_alloc | apply pw_below_drewN | apply below_drew1) | exact HB.out)⟩
  · rw [if_neg c4] at H
    have c4b0 : (t142 == 0) = false := beq_eq_false_iff_ne.mpr c4
    have c4b1 : (t142 != 0) = true := bne_iff_ne.mpr c4
    simp only [Option.some.injEq, Prod.mk.injEq] at H
    obtain ⟨rfl, rfl⟩ := H
    go_enter Try.func21, Try.ntmps21
    go_wp2_with (first | ((with_reducible refine gate_callee (f := 19) rfl ?_); refine goesL_ (some 10) rfl rfl Try.func19 (by kernel_rfl) rfl #[.slice A0 l0.length c0] rfl (by (try simp only [List.map_toArray, List.map_cons, List.map_nil]); first | done | rfl | (simp only [List.length_drop, List.length_take]; rfl)) ?_; (with_reducible refine (bagnallref_RowsFault.calls k _ _ l0 t142 _ ?side1 ?side2 A3.out).mono ?_); (case side1 => repeat (first | exact HR0.out | (with_reducible refine Kd.C_alloc ?_ _) | (with_reducible refine Kd.C_drewN ?_ _) | (with_reducible refine Kd.C_drew ?_))); (case side2 => exact HC0.out); rintro e w14 ⟨rfl, hb⟩; refine ⟨_, rfl, ?_⟩; have n0_ := Aside0.mk (below_step (by repeat (first | (with_reducible first | exact HB.out | apply below_alloc | apply pw_below_drewN | apply below_drew1) | exact HB.out)) hb); clear HB; have HB := n0_; clear n0_; (try clear hb); (try clear hb2); (try clear hk); (try clear hi)))
    go_ret2
    exact ⟨by first | rfl | (simp [errW_none, errW_some] <;> rfl) | (simp [*, errW_none, errW_some] <;> rfl), by repeat (first | (with_reducible first | exact HB.out | apply below_alloc | apply pw_below_drewN | apply below_drew1) | exact HB.out)⟩

/-! ### stringslite_HasSuffix: function 65 -/
def stringslite_HasSuffix.f (a0 : ByteArray) (a1 : ByteArray) : Option (Bool) := if (a0.size : Int) ≥ (a1.size : Int) then (if 0 ≤ (wrap64 ((a0.size : Int) - (a1.size : Int))) then (if (wrap64 ((a0.size : Int) - (a1.size : Int))) ≤ (a0.size : Int) then (some ((a0.extract ((wrap64 ((a0.size : Int) - (a1.size : Int))) : Int).toNat a0.size).toList == a1.toList)) else (none)) else (none)) else (some false)
set_option maxHeartbeats 8000000 in
set_option maxRecDepth 100000 in
theorem stringslite_HasSuffix.calls (a0 : ByteArray) (a1 : ByteArray) (r : Bool) (w : World) (h : stringslite_HasSuffix.f a0 a1 = some r) :
    Calls Try.prog 65 #[.string a0, .string a1] w fun e w' => e = .returned (.bool r) ∧ Drawn0 w w' := by
  have H : (if (a0.size : Int) ≥ (a1.size : Int) then (if 0 ≤ (wrap64 ((a0.size : Int) - (a1.size : Int))) then (if (wrap64 ((a0.size : Int) - (a1.size : Int))) ≤ (a0.size : Int) then (some ((a0.extract ((wrap64 ((a0.size : Int) - (a1.size : Int))) : Int).toNat a0.size).toList == a1.toList)) else (none)) else (none)) else (some false)) = some r := h
  clear h
  by_cases c3 : (a0.size : Int) ≥ (a1.size : Int)
  · rw [if_pos c3] at H
    have c3b0 : decide ((a1.size : Int) ≤ (a0.size : Int)) = true := decide_eq_true c3
    have c3b1 : decide (a1.size ≤ a0.size) = true := decide_eq_true (Int.ofNat_le.mp c3)
    clear c3
    obtain ⟨ji4, hji4⟩ : ∃ j_ : Int, (wrap64 ((a0.size : Int) - (a1.size : Int))) = j_ := ⟨_, rfl⟩
    replace H : (if 0 ≤ (ji4) then (if (ji4) ≤ (a0.size : Int) then (some ((a0.extract ((ji4) : Int).toNat a0.size).toList == a1.toList)) else (none)) else (none)) = some r := by first | (rw [hji4] at H; exact H) | (simp only [hji4] at H ⊢; exact H)
    have hji4w : (IntKind.i64.wrap ((a0.size : Int) - (a1.size : Int))) = ji4 := (i64_w _).trans hji4
    by_cases c5 : 0 ≤ (ji4)
    · rw [if_pos c5] at H
      have c5b0 := eq_true c5
      have c5b1 : decide (0 ≤ (ji4)) = true := decide_eq_true c5
      clear c5
      by_cases c6 : (ji4) ≤ (a0.size : Int)
      · rw [if_pos c6] at H
        have c6b0 := eq_true c6
        have c6b1 : decide ((ji4) ≤ (a0.size : Int)) = true := decide_eq_true c6
        clear c6
        obtain rfl := Option.some.inj H
        go_enter Try.func65, Try.ntmps65
        go_wp2
        go_ret
        exact ⟨by first | rfl | (simp; done) | (simp only [← hji4] <;> (first | rfl | simp)) | (simp [*]; done), by repeat (first | exact Drawn0.refl _ | apply Drawn0.step)⟩
      · rw [if_neg c6] at H
        exact absurd H (by simp)
    · rw [if_neg c5] at H
      exact absurd H (by simp)
  · rw [if_neg c3] at H
    have c3b0 : decide ((a1.size : Int) ≤ (a0.size : Int)) = false := decide_eq_false c3
    have c3b1 : decide (a1.size ≤ a0.size) = false := decide_eq_false (fun h => c3 (Int.ofNat_le.mpr h))
    clear c3
    obtain rfl := Option.some.inj H
    go_enter Try.func65, Try.ntmps65
    go_wp2
    go_ret
    exact ⟨by first | rfl | (simp; done) | (simp [*]; done), by repeat (first | exact Drawn0.refl _ | apply Drawn0.step)⟩

/-! ### strings_HasSuffix: function 43 -/
def strings_HasSuffix.f (a0 : ByteArray) (a1 : ByteArray) : Option (Bool) := (stringslite_HasSuffix.f a0 a1).bind fun t145 => (some t145)
set_option maxHeartbeats 8000000 in
set_option maxRecDepth 100000 in
theorem strings_HasSuffix.calls (a0 : ByteArray) (a1 : ByteArray) (r : Bool) (w : World) (h : strings_HasSuffix.f a0 a1 = some r) :
    Calls Try.prog 43 #[.string a0, .string a1] w fun e w' => e = .returned (.bool r) ∧ Drawn0 w w' := by
  have H : ((stringslite_HasSuffix.f a0 a1).bind fun t145 => (some t145)) = some r := h
  clear h
  replace H := Option.bind_eq_some_iff.mp H
  obtain ⟨t145, A30, H⟩ := H
  replace H : (some t145) = some r := H
  have A3 := Aside0.mk A30
  clear A30
  obtain rfl := Option.some.inj H
  go_enter Try.func43, Try.ntmps43
  go_wp2_with (first | ((with_reducible refine gate_callee (f := 65) rfl ?_); refine goesL_ (some 7) rfl rfl Try.func65 (by kernel_rfl) rfl #[.string a0, .string a1] rfl (by (try simp only [List.map_toArray, List.map_cons, List.map_nil]); first | done | rfl | (simp only [List.length_drop, List.length_take]; rfl)) ?_; (with_reducible refine (stringslite_HasSuffix.calls a0 a1 t145 _ A3.out).mono ?_); rintro e w' ⟨rfl, ⟨nd, rfl⟩⟩; refine ⟨_, rfl, ?_⟩))
  go_ret
  exact ⟨by first | rfl | (simp; done) | (simp [*]; done), by repeat (first | exact Drawn0.refl _ | apply Drawn0.step)⟩

end Go.Proofs.Ytnjidfgjldkkcaa.Q
