/- Texts of this claim, laid together: QWt1, QWo, Ev, PlRows, QFt, QFa, QCg, QAc, QBt, QWr, QCb, QWd, QBu, QDk, QRw, QRe. -/
import Derived.Test.YtnjidfgjldkkcaaWWords
import Derived.Laws.Strings
import Derived.StillTail
import Derived.Deep.RegionHeld3
import Derived.Deep.RegionLaw
import Derived.IntWalk
import Derived.Deep.QuietTactic
import Derived.BigQuiet
import Derived.Laws.Cover3
import Derived.ChangeKeysEq
import Derived.LoopTactic
import Derived.Lib.Hide
import Derived.Lib.SliceRun
import Derived.WalkSpells
import Derived.StillTailTactics
import Derived.Test.YtnjidfgjldkkcaaMTopLog1
-- Written for this seat by a program of its session (xp.py over the kit's printer).
namespace Go.Proofs.Ytnjidfgjldkkcaa.Q
open Go.RowKit Go.Proofs.YtnjidfgjldkkcaaW.PrintWords Go.Proofs.YtnjidfgjldkkcaaW.PrintLast Go.Proofs.YtnjidfgjldkkcaaW.PrintMore
attribute [local go_sem] max2_int min2_int max_two min_two max_three min_three max_four min_four xq_geq xq_leq xq_gtr   -- for this text's walks alone
set_option linter.unusedVariables false
set_option linter.unusedSimpArgs false

/-! ### bagnallref_walSums: function 55 -/
def bagnallref_walSums.l0 : Nat → List Int → Int → Int → List Int → Int → Int → Option (Int × Int)
  | 0, _, _, _, _, _, _ => none
  | k + 1, x0, x4, x5, x8, x9, x10 => if x10 < x9 then (if 0 ≤ x10 then (if x10 < (x8.length : Int) then (bagnallref_walSums.l0 k x0 (wrap64 (x4 + (wrap64 ((wrap64 (rd x8 x10)) + 1)))) (wrap64 (x5 + (wrap64 ((wrap64 ((x0.length : Int) - x10)) * (wrap64 ((wrap64 (rd x8 x10)) + 1)))))) x8 x9 (wrap64 (x10 + 1))) else (none)) else (none)) else (some (Int.tmod x4 251, Int.tmod x5 251))
def bagnallref_walSums.f (k : Nat) (l0 : List Int) : Option (Int × Int) := bagnallref_walSums.l0 k l0 0 0 l0 (l0.length : Int) 0
theorem bagnallref_walSums.mono_l : ∀ k, (∀ y0 y1 y2 y3 y4 y5, LeO (bagnallref_walSums.l0 k y0 y1 y2 y3 y4 y5) (bagnallref_walSums.l0 (k + 1) y0 y1 y2 y3 y4 y5))
  | 0 => fun _ _ _ _ _ _ r h => by simp [bagnallref_walSums.l0] at h
  | k + 1 => by
    have ih0 := bagnallref_walSums.mono_l k
    · intro y0 y1 y2 y3 y4 y5
      unfold bagnallref_walSums.l0
      repeat' first
      | (with_reducible exact ih0 _ _ _ _ _ _)
      | (with_reducible exact LeO.refl _)
      | (with_reducible exact LeO.none _)
      | (with_reducible refine LeO.ite ?_ ?_)
      | (with_reducible refine LeO.bind ?_ (fun _ => ?_))
      | exact ih0 _ _ _ _ _ _
      | exact LeO.none _
      | refine LeO.ite ?_ ?_
      | refine LeO.bind ?_ (fun _ => ?_)
theorem bagnallref_walSums.mono : ∀ a0 k, LeO (bagnallref_walSums.f k a0) (bagnallref_walSums.f (k + 1) a0) := by
  intro a0 k
  have ih0 := bagnallref_walSums.mono_l k
  unfold bagnallref_walSums.f
  repeat' first
      | (with_reducible exact ih0 _ _ _ _ _ _)
      | (with_reducible exact LeO.refl _)
      | (with_reducible exact LeO.none _)
      | (with_reducible refine LeO.ite ?_ ?_)
      | (with_reducible refine LeO.bind ?_ (fun _ => ?_))
      | exact ih0 _ _ _ _ _ _
      | exact LeO.none _
      | refine LeO.ite ?_ ?_
      | refine LeO.bind ?_ (fun _ => ?_)
set_option maxHeartbeats 8000000 in
set_option maxRecDepth 100000 in
theorem bagnallref_walSums.calls (k : Nat) (A0 : Option Addr) (c0 : Nat) (l0 : List Int) (r1 : Int) (r2 : Int) (w : World) (hr0 : Kd.C (Kd.int .u8) w A0 l0.length l0) (hc0 : l0.length ≤ c0) (h : bagnallref_walSums.f k l0 = some (r1, r2)) :
    Calls Try.prog 55 #[.slice A0 l0.length c0] w fun e w' => e = .returned (.tuple #[.int .i64 r1, .int .i64 r2]) ∧ Drawn0 w w' := by
  have HR0 := Aside0.mk hr0
  have HC0 := Aside0.mk hc0
  clear hr0 hc0
  have H : (bagnallref_walSums.l0 k l0 0 0 l0 (l0.length : Int) 0) = some (r1, r2) := h
  clear h
  have H' := Aside0.mk H
  clear H
  go_enter Try.func55, Try.ntmps55
  go_wp2
  go_loopg [4, 5, 10] k (fun kq v4 v5 v10 w' => ∃ (x4_1 : Int) (x5_1 : Int) (x10_1 : Int), v4 = .int .i64 x4_1 ∧ v5 = .int .i64 x5_1 ∧ v10 = .int .i64 x10_1 ∧ Aside0 (bagnallref_walSums.l0 kq l0 x4_1 x5_1 l0 (l0.length : Int) x10_1 = some (r1, r2)) ∧ Aside0 (kq ≤ k) ∧ Drawn0 w w')
  case atStart => exact ⟨(0), (0), (0), (by first | rfl | (simp; done) | (simp [*]; done)), (by first | rfl | (simp; done) | (simp [*]; done)), (by first | rfl | (simp; done) | (simp [*]; done)), H', ⟨Nat.le_refl _⟩, by repeat (first | exact Drawn0.refl _ | apply Drawn0.step)⟩
  case round =>
    clear H'
    obtain ⟨x4_1, x5_1, x10_1, rfl, rfl, rfl, HA, HK1, ⟨m1, rfl⟩⟩ := hrel
    cases gk with
    | zero => exact absurd HA.out (by simp [bagnallref_walSums.l0])
    | succ k1 =>
      have H := HA.out
      clear HA
      simp only [bagnallref_walSums.l0] at H
      by_cases c2 : x10_1 < (l0.length : Int)
      · rw [if_pos c2] at H
        have c2b0 : decide (x10_1 < (l0.length : Int)) = true := decide_eq_true c2
        clear c2
        by_cases c3 : 0 ≤ x10_1
        · rw [if_pos c3] at H
          have c3b0 : decide (0 ≤ x10_1) = true := decide_eq_true c3
          clear c3
          by_cases c4 : x10_1 < (l0.length : Int)
          · rw [if_pos c4] at H
            have c4b0 : decide (x10_1 < (l0.length : Int)) = true := decide_eq_true c4
            clear c4
            have H' := Aside0.mk H
            clear H
            have p101 : 0 ≤ (x10_1 : Int) := of_decide_eq_true (by first | (with_reducible assumption) | assumption)
            have q101 : x10_1 < (l0.length : Int) := of_decide_eq_true (by first | (with_reducible assumption) | assumption)
            obtain ⟨ad101, e101, hx101_0⟩ := Kd.at_int HR0.out x10_1 p101 q101
            cases e101
            replace p101 := eq_true p101
            replace q101 := eq_true q101
            go_wp2
            go_roundg k1
            case measure => have := HK1.out; omega
            case rel => exact ⟨(wrap64 (x4_1 + (wrap64 ((wrap64 (rd l0 x10_1)) + 1)))), (wrap64 (x5_1 + (wrap64 ((wrap64 ((l0.length : Int) - x10_1)) * (wrap64 ((wrap64 (rd l0 x10_1)) + 1)))))), (wrap64 (x10_1 + 1)), (by first | rfl | (simp; done) | (simp [*]; done)), (by first | rfl | (simp; done) | (simp [*]; done)), (by first | rfl | (simp; done) | (simp [*]; done)), H', ⟨by have := HK1.out; omega⟩, by repeat (first | exact Drawn0.refl _ | apply Drawn0.step)⟩
          · rw [if_neg c4] at H
            exact absurd H (by simp)
        · rw [if_neg c3] at H
          exact absurd H (by simp)
      · rw [if_neg c2] at H
        have c2b0 : decide (x10_1 < (l0.length : Int)) = false := decide_eq_false c2
        clear c2
        simp only [Option.some.injEq, Prod.mk.injEq] at H
        obtain ⟨rfl, rfl⟩ := H
        go_wp2
        go_ret2
        exact ⟨by first | rfl | (simp; done) | (simp [*]; done), by repeat (first | exact Drawn0.refl _ | apply Drawn0.step)⟩

/-! ### bagnallref_WalPack: function 28 -/
mutual
def bagnallref_WalPack.j0 : Nat → List (List Int) → Bool → Option (List Int × Int)
  | 0, _, _ => none
  | k + 1, x0, x19 => if x19 = true then (some (([] : List Int), 1)) else (bagnallref_WalPack.l0 k x0 x0 (x0.length : Int) 0)
def bagnallref_WalPack.l0 : Nat → List (List Int) → List (List Int) → Int → Int → Option (List Int × Int)
  | 0, _, _, _, _ => none
  | k + 1, x0, x20, x21, x22 => if x22 < x21 then (if 0 ≤ x22 then (if x22 < (x20.length : Int) then (if ((rd_L4 x20 x22).length : Int) = 0 then (some (([] : List Int), 1)) else (if ((rd_L4 x20 x22).length : Int) > 60 then (some (([] : List Int), 1)) else (bagnallref_WalPack.l0 k x0 x20 x21 (wrap64 (x22 + 1))))) else (none)) else (none)) else (bagnallref_WalPack.l1 k x0 ([] : List Int) x0 (x0.length : Int) 0)
def bagnallref_WalPack.l1 : Nat → List (List Int) → List Int → List (List Int) → Int → Int → Option (List Int × Int)
  | 0, _, _, _, _, _ => none
  | k + 1, x0, x6, x35, x36, x37 => if x37 < x36 then (if 0 ≤ x37 then (if x37 < (x35.length : Int) then ((some (([(((rd_L4 x35 x37).length : Int)) % 256, 0] : List Int) : List Int)).bind fun y104 => (if (wrap64 (x37 + 1)) = (x0.length : Int) then (if 1 < (y104.length : Int) then ((some (y104.set (1 : Int).toNat 1 : List Int)).bind fun y107 => (if y107.length + (rd_L4 x35 x37).length < 140737488355328 then ((some (y107 ++ (rd_L4 x35 x37) : List Int)).bind fun y108 => ((bagnallref_walSums.f k y108).bind fun bt111 => (if x6.length + y108.length < 140737488355328 then ((some (x6 ++ y108 : List Int)).bind fun y113 => ((some (([(bt111.1) % 256, (bt111.2) % 256] : List Int) : List Int)).bind fun y116 => (if y113.length + y116.length < 140737488355328 then (bagnallref_WalPack.l1 k x0 (y113 ++ y116) x35 x36 (wrap64 (x37 + 1))) else (none)))) else (none)))) else (none))) else (none)) else (if y104.length + (rd_L4 x35 x37).length < 140737488355328 then ((some (y104 ++ (rd_L4 x35 x37) : List Int)).bind fun y122 => ((bagnallref_walSums.f k y122).bind fun bt125 => (if x6.length + y122.length < 140737488355328 then ((some (x6 ++ y122 : List Int)).bind fun y127 => ((some (([(bt125.1) % 256, (bt125.2) % 256] : List Int) : List Int)).bind fun y130 => (if y127.length + y130.length < 140737488355328 then (bagnallref_WalPack.l1 k x0 (y127 ++ y130) x35 x36 (wrap64 (x37 + 1))) else (none)))) else (none)))) else (none)))) else (none)) else (none)) else (some (x6, 0))
end
def bagnallref_WalPack.f (k : Nat) (l0 : List (List Int)) : Option (List Int × Int) := if (l0.length : Int) = 0 then (bagnallref_WalPack.j0 k l0 true) else (bagnallref_WalPack.j0 k l0 (decide ((l0.length : Int) > 60)))
theorem bagnallref_WalPack.mono_l : ∀ k, (∀ y0 y1, LeO (bagnallref_WalPack.j0 k y0 y1) (bagnallref_WalPack.j0 (k + 1) y0 y1)) ∧ (∀ y0 y1 y2 y3, LeO (bagnallref_WalPack.l0 k y0 y1 y2 y3) (bagnallref_WalPack.l0 (k + 1) y0 y1 y2 y3)) ∧ (∀ y0 y1 y2 y3 y4, LeO (bagnallref_WalPack.l1 k y0 y1 y2 y3 y4) (bagnallref_WalPack.l1 (k + 1) y0 y1 y2 y3 y4))
  | 0 => ⟨fun _ _ r h => by simp [bagnallref_WalPack.j0] at h, fun _ _ _ _ r h => by simp [bagnallref_WalPack.l0] at h, fun _ _ _ _ _ r h => by simp [bagnallref_WalPack.l1] at h⟩
  | k + 1 => by
    obtain ⟨ih0, ih1, ih2⟩ := bagnallref_WalPack.mono_l k
    refine ⟨?_, ?_, ?_⟩
    · intro y0 y1
      unfold bagnallref_WalPack.j0
      repeat' first
      | (with_reducible exact ih0 _ _)
      | (with_reducible exact ih1 _ _ _ _)
      | (with_reducible exact ih2 _ _ _ _ _)
      | (with_reducible exact bagnallref_walSums.mono _ _)
      | (with_reducible exact LeO.refl _)
      | (with_reducible exact LeO.none _)
      | (with_reducible refine LeO.ite ?_ ?_)
      | (with_reducible refine LeO.bind ?_ (fun _ => ?_))
      | exact ih0 _ _
      | exact ih1 _ _ _ _
      | exact ih2 _ _ _ _ _
      | exact bagnallref_walSums.mono _ _
      | exact LeO.none _
      | refine LeO.ite ?_ ?_
      | refine LeO.bind ?_ (fun _ => ?_)
    · intro y0 y1 y2 y3
      unfold bagnallref_WalPack.l0
      repeat' first
      | (with_reducible exact ih0 _ _)
      | (with_reducible exact ih1 _ _ _ _)
      | (with_reducible exact ih2 _ _ _ _ _)
      | (with_reducible exact bagnallref_walSums.mono _ _)
      | (with_reducible exact LeO.refl _)
      | (with_reducible exact LeO.none _)
      | (with_reducible refine LeO.ite ?_ ?_)
      | (with_reducible refine LeO.bind ?_ (fun _ => ?_))
      | exact ih0 _ _
      | exact ih1 _ _ _ _
      | exact ih2 _ _ _ _ _
      | exact bagnallref_walSums.mono _ _
      | exact LeO.none _
      | refine LeO.ite ?_ ?_
      | refine LeO.bind ?_ (fun _ => ?_)
    · intro y0 y1 y2 y3 y4
      unfold bagnallref_WalPack.l1
      repeat' first
      | (with_reducible exact ih0 _ _)
      | (with_reducible exact ih1 _ _ _ _)
      | (with_reducible exact ih2 _ _ _ _ _)
      | (with_reducible exact bagnallref_walSums.mono _ _)
      | (with_reducible exact LeO.refl _)
      | (with_reducible exact LeO.none _)
      | (with_reducible refine LeO.ite ?_ ?_)
      | (with_reducible refine LeO.bind ?_ (fun _ => ?_))
      | exact ih0 _ _
      | exact ih1 _ _ _ _
      | exact ih2 _ _ _ _ _
      | exact bagnallref_walSums.mono _ _
      | exact LeO.none _
      | refine LeO.ite ?_ ?_
      | refine LeO.bind ?_ (fun _ => ?_)
theorem bagnallref_WalPack.mono : ∀ a0 k, LeO (bagnallref_WalPack.f k a0) (bagnallref_WalPack.f (k + 1) a0) := by
  intro a0 k
  obtain ⟨ih0, ih1, ih2⟩ := bagnallref_WalPack.mono_l k
  unfold bagnallref_WalPack.f
  repeat' first
      | (with_reducible exact ih0 _ _)
      | (with_reducible exact ih1 _ _ _ _)
      | (with_reducible exact ih2 _ _ _ _ _)
      | (with_reducible exact bagnallref_walSums.mono _ _)
      | (with_reducible exact LeO.refl _)
      | (with_reducible exact LeO.none _)
      | (with_reducible refine LeO.ite ?_ ?_)
      | (with_reducible refine LeO.bind ?_ (fun _ => ?_))
      | exact ih0 _ _
      | exact ih1 _ _ _ _
      | exact ih2 _ _ _ _ _
      | exact bagnallref_walSums.mono _ _
      | exact LeO.none _
      | refine LeO.ite ?_ ?_
      | refine LeO.bind ?_ (fun _ => ?_)
set_option maxHeartbeats 8000000 in
set_option maxRecDepth 100000 in
theorem bagnallref_WalPack.calls (k : Nat) (A0 : Option Addr) (c0 : Nat) (l0 : List (List Int)) (r1 : List Int) (r2 : Int) (w : World) (hr0 : Kd.C (Kd.slice 5 (Kd.int .u8)) w A0 l0.length l0) (hc0 : l0.length ≤ c0) (h : bagnallref_WalPack.f k l0 = some (r1, r2)) :
    Calls Try.prog 28 #[.slice A0 l0.length c0] w fun e w' => ∃ v0_ : Value, e = .returned (.tuple #[v0_, .int .i64 r2]) ∧ Kd.R (Kd.int .u8) 5 w' w.heap.size (fun _ => True) v0_ r1 ∧ Below w.heap.size w w' := by
  have HR0 := Aside0.mk hr0
  have HC0 := Aside0.mk hc0
  clear hr0 hc0
  have HB := Aside0.mk (Below.refl w.heap.size w)
  have H : (if (l0.length : Int) = 0 then (bagnallref_WalPack.j0 k l0 true) else (bagnallref_WalPack.j0 k l0 (decide ((l0.length : Int) > 60)))) = some (r1, r2) := h
  clear h
  have HC2 := Aside0.mk H
  clear H
  go_enter Try.func28, Try.ntmps28
  go_upto_region 1 with (fail)
  go_cut [19] (fun v19 wc => ∃ (kq : Nat) (x19_1 : Bool), v19 = .bool x19_1 ∧ Aside0 (bagnallref_WalPack.j0 kq l0 x19_1 = some (r1, r2)) ∧ Aside0 (kq ≤ k) ∧ Aside0 (Below w.heap.size w wc))
  case first =>
    have H := HC2.out
    clear HC2
    by_cases c3 : (l0.length : Int) = 0
    · rw [if_pos c3] at H
      have c3b0 : ((l0.length : Int) == 0) = true := beq_iff_eq.mpr c3
      have c3b1 : ((l0.length : Int) != 0) = false := bne_eq_false_iff_eq.mpr c3
      clear c3
      (first | rw [c3b0] | (simp only [i64_w, i32_w]; rw [c3b0]) | skip)
      have H' := Aside0.mk H
      clear H
      go_wp2
      go_meet
      case rel => exact ⟨_, (true), (by first | rfl | (simp; done) | (simp [*]; done)), H', ⟨by first | omega | exact Nat.le_refl _⟩, ⟨by repeat (first | (with_reducible first | exact HB.out | apply below_alloc | apply pw_below_drewN | apply below_drew1) | exact HB.out)⟩⟩
    · rw [if_neg c3] at H
      have c3b0 : ((l0.length : Int) == 0) = false := beq_eq_false_iff_ne.mpr c3
      have c3b1 : ((l0.length : Int) != 0) = true := bne_iff_ne.mpr c3
      have c3b2 : ¬ (l0 = []) := fun h_ => c3 (by rw [h_]; rfl)
      (first | rw [c3b0] | (simp only [i64_w, i32_w]; rw [c3b0]) | skip)
      have H' := Aside0.mk H
      clear H
      go_wp2
      go_meet
      case rel => exact ⟨_, (decide ((l0.length : Int) > 60)), (by first | rfl | (simp; done) | (simp [*]; done)), H', ⟨by first | omega | exact Nat.le_refl _⟩, ⟨by repeat (first | (with_reducible first | exact HB.out | apply below_alloc | apply pw_below_drewN | apply below_drew1) | exact HB.out)⟩⟩
  case rest =>
    clear HC2
    try clear c2
    try clear p2
    try clear c3
    try clear c3b0
    try clear c3b1
    try clear c3b2
    obtain ⟨kq, x19_1, rfl, HA, HJ1, HB⟩ := hcut
    cases kq with
    | zero => exact absurd HA.out (by simp [bagnallref_WalPack.j0])
    | succ kj1 =>
      have H := HA.out
      clear HA
      simp only [bagnallref_WalPack.j0] at H
      by_cases c4 : x19_1 = true
      · subst c4
        have H1 : (some (([] : List Int), 1)) = some (r1, r2) := by rw [if_pos rfl] at H; exact H
        clear H
        have H := H1
        clear H1
        simp only [Option.some.injEq, Prod.mk.injEq] at H
        obtain ⟨rfl, rfl⟩ := H
        go_wp2
        go_ret2
        exact ⟨_, by first | rfl | (simp [errW_none, errW_some] <;> rfl) | (simp [*, errW_none, errW_some] <;> rfl), by first | exact Kd.R_nil _ _ _ _ _ | exact Kd.N_nil _ _ _ _ _ | exact Kd.V_nil _ _ _ _ _ | exact Kd.Q_nil _ _ _ _ _ | exact Kd.S_nil _ _ _ _ _, by repeat (first | (with_reducible first | exact HB.out | apply below_alloc | apply pw_below_drewN | apply below_drew1) | exact HB.out)⟩
      · replace c4 := Bool.eq_false_iff.mpr c4
        subst c4
        have H1 : (bagnallref_WalPack.l0 kj1 l0 l0 (l0.length : Int) 0) = some (r1, r2) := by rw [if_neg (show ¬ (false = true) by decide)] at H; exact H
        clear H
        have H := H1
        clear H1
        have H' := Aside0.mk H
        clear H
        go_wp2
        go_loopg [22] kj1 (fun kq v22 w' => ∃ (x22_2 : Int), v22 = .int .i64 x22_2 ∧ Aside0 (bagnallref_WalPack.l0 kq l0 l0 (l0.length : Int) x22_2 = some (r1, r2)) ∧ Aside0 (kq ≤ kj1) ∧ Aside0 (Below w.heap.size w w'))
        case atStart => exact ⟨(0), (by first | rfl | (simp; done) | (simp [*]; done)), H', ⟨Nat.le_refl _⟩, ⟨by repeat (first | (with_reducible first | exact HB.out | apply below_alloc | apply pw_below_drewN | apply below_drew1) | exact HB.out)⟩⟩
        case round =>
          clear H'
          try clear c2
          try clear p2
          try clear c3
          try clear c3b0
          try clear c3b1
          try clear c3b2
          try clear c4
          try clear p2
          obtain ⟨x22_2, rfl, HA, HK2, HB⟩ := hrel
          cases gk with
          | zero => exact absurd HA.out (by simp [bagnallref_WalPack.l0])
          | succ k2 =>
            have H := HA.out
            clear HA
            simp only [bagnallref_WalPack.l0] at H
            by_cases c5 : x22_2 < (l0.length : Int)
            · rw [if_pos c5] at H
              have c5b0 : decide (x22_2 < (l0.length : Int)) = true := decide_eq_true c5
              clear c5
              by_cases c6 : 0 ≤ x22_2
              · rw [if_pos c6] at H
                have c6b0 : decide (0 ≤ x22_2) = true := decide_eq_true c6
                clear c6
                by_cases c7 : x22_2 < (l0.length : Int)
                · rw [if_pos c7] at H
                  have c7b0 : decide (x22_2 < (l0.length : Int)) = true := decide_eq_true c7
                  clear c7
                  by_cases c8 : ((rd_L4 l0 x22_2).length : Int) = 0
                  · rw [if_pos c8] at H
                    have c8b0 : (((rd_L4 l0 x22_2).length : Int) == 0) = true := beq_iff_eq.mpr c8
                    have c8b1 : (((rd_L4 l0 x22_2).length : Int) != 0) = false := bne_eq_false_iff_eq.mpr c8
                    clear c8
                    simp only [Option.some.injEq, Prod.mk.injEq] at H
                    obtain ⟨rfl, rfl⟩ := H
                    have p102 : 0 ≤ (x22_2 : Int) := of_decide_eq_true (by first | (with_reducible assumption) | assumption)
                    have q102 : x22_2 < (l0.length : Int) := of_decide_eq_true (by first | (with_reducible assumption) | assumption)
                    obtain ⟨ad102, A102_0, c102_0, e102, hx102_0, hl102_0, hi102_0⟩ := at_L4 HR0.out x22_2 p102 q102
                    cases e102
                    try replace hx102_0 := (HB.out.cell (World.block_lt_of_cell? w _ hx102_0)).trans hx102_0
                    have HR102_0 := Aside0.mk hi102_0
                    have HC102_0 := Aside0.mk hl102_0
                    clear hi102_0 hl102_0
                    replace p102 := eq_true p102
                    replace q102 := eq_true q102
                    go_wp2
                    go_ret2
                    exact ⟨_, by first | rfl | (simp [errW_none, errW_some] <;> rfl) | (simp [*, errW_none, errW_some] <;> rfl), by first | exact Kd.R_nil _ _ _ _ _ | exact Kd.N_nil _ _ _ _ _ | exact Kd.V_nil _ _ _ _ _ | exact Kd.Q_nil _ _ _ _ _ | exact Kd.S_nil _ _ _ _ _, by repeat (first | (with_reducible first | exact HB.out | apply below_alloc | apply pw_below_drewN | apply below_drew1) | exact HB.out)⟩
                  · rw [if_neg c8] at H
                    have c8b0 : (((rd_L4 l0 x22_2).length : Int) == 0) = false := beq_eq_false_iff_ne.mpr c8
                    have c8b1 : (((rd_L4 l0 x22_2).length : Int) != 0) = true := bne_iff_ne.mpr c8
                    have c8b2 : ¬ ((rd_L4 l0 x22_2) = []) := fun h_ => c8 (by rw [h_]; rfl)
                    by_cases c9 : ((rd_L4 l0 x22_2).length : Int) > 60
                    · rw [if_pos c9] at H
                      have c9b0 : decide (60 < ((rd_L4 l0 x22_2).length : Int)) = true := decide_eq_true c9
                      have c9b1 : decide (60 < (rd_L4 l0 x22_2).length) = true := decide_eq_true (by omega)
                      clear c9
                      simp only [Option.some.injEq, Prod.mk.injEq] at H
                      obtain ⟨rfl, rfl⟩ := H
                      have p102 : 0 ≤ (x22_2 : Int) := of_decide_eq_true (by first | (with_reducible assumption) | assumption)
                      have q102 : x22_2 < (l0.length : Int) := of_decide_eq_true (by first | (with_reducible assumption) | assumption)
                      obtain ⟨ad102, A102_0, c102_0, e102, hx102_0, hl102_0, hi102_0⟩ := at_L4 HR0.out x22_2 p102 q102
                      cases e102
                      try replace hx102_0 := (HB.out.cell (World.block_lt_of_cell? w _ hx102_0)).trans hx102_0
                      have HR102_0 := Aside0.mk hi102_0
                      have HC102_0 := Aside0.mk hl102_0
                      clear hi102_0 hl102_0
                      replace p102 := eq_true p102
                      replace q102 := eq_true q102
                      go_wp2
                      go_ret2
                      exact ⟨_, by first | rfl | (simp [errW_none, errW_some] <;> rfl) | (simp [*, errW_none, errW_some] <;> rfl), by first | exact Kd.R_nil _ _ _ _ _ | exact Kd.N_nil _ _ _ _ _ | exact Kd.V_nil _ _ _ _ _ | exact Kd.Q_nil _ _ _ _ _ | exact Kd.S_nil _ _ _ _ _, by repeat (first | (with_reducible first | exact HB.out | apply below_alloc | apply pw_below_drewN | apply below_drew1) | exact HB.out)⟩
                    · rw [if_neg c9] at H
                      have c9b0 : decide (60 < ((rd_L4 l0 x22_2).length : Int)) = false := decide_eq_false c9
                      have c9b1 : decide (60 < (rd_L4 l0 x22_2).length) = false := decide_eq_false (by omega)
                      clear c9
                      have H' := Aside0.mk H
                      clear H
                      have p102 : 0 ≤ (x22_2 : Int) := of_decide_eq_true (by first | (with_reducible assumption) | assumption)
                      have q102 : x22_2 < (l0.length : Int) := of_decide_eq_true (by first | (with_reducible assumption) | assumption)
                      obtain ⟨ad102, A102_0, c102_0, e102, hx102_0, hl102_0, hi102_0⟩ := at_L4 HR0.out x22_2 p102 q102
                      cases e102
                      try replace hx102_0 := (HB.out.cell (World.block_lt_of_cell? w _ hx102_0)).trans hx102_0
                      have HR102_0 := Aside0.mk hi102_0
                      have HC102_0 := Aside0.mk hl102_0
                      clear hi102_0 hl102_0
                      replace p102 := eq_true p102
                      replace q102 := eq_true q102
                      go_wp2
                      go_roundg k2
                      case measure => have := HJ1.out; have := HK2.out; omega
                      case rel => exact ⟨(wrap64 (x22_2 + 1)), (by first | rfl | (simp; done) | (simp [*]; done)), H', ⟨by have := HJ1.out; have := HK2.out; omega⟩, ⟨by repeat (first | (with_reducible first | exact HB.out | apply below_alloc | apply pw_below_drewN | apply below_drew1) | exact HB.out)⟩⟩
                · rw [if_neg c7] at H
                  exact absurd H (by simp)
              · rw [if_neg c6] at H
                exact absurd H (by simp)
            · rw [if_neg c5] at H
              have c5b0 : decide (x22_2 < (l0.length : Int)) = false := decide_eq_false c5
              clear c5
              have H' := Aside0.mk H
              clear H
              go_wp2
              go_loopg [6, 37] k2 (fun kq v6 v37 w' => ∃ (x6_3 : List Int) (x37_3 : Int), v37 = .int .i64 x37_3 ∧ Aside0 (bagnallref_WalPack.l1 kq l0 x6_3 l0 (l0.length : Int) x37_3 = some (r1, r2)) ∧ Aside0 (kq ≤ k2) ∧ Aside0 (Kd.R (Kd.int .u8) 5 w' w.heap.size (fun _ => True) v6 x6_3) ∧ Aside0 (Below w.heap.size w w'))
              case atStart => exact ⟨(([] : List Int)), (0), (by first | rfl | (simp; done) | (simp [*]; done)), H', ⟨Nat.le_refl _⟩, ⟨by first | exact Kd.R_nil _ _ _ _ _ | exact Kd.N_nil _ _ _ _ _ | exact Kd.V_nil _ _ _ _ _ | exact Kd.Q_nil _ _ _ _ _ | exact Kd.S_nil _ _ _ _ _⟩, ⟨by repeat (first | (with_reducible first | exact HB.out | apply below_alloc | apply pw_below_drewN | apply below_drew1) | exact HB.out)⟩⟩
              case round =>
                clear H'
                try clear c1
                try clear p1
                try clear q1
                try clear hx1
                try clear c2
                try clear p2
                try clear c3
                try clear c3b0
                try clear c3b1
                try clear c3b2
                try clear c4
                try clear c5
                try clear c5b0
                try clear c6
                try clear c6b0
                try clear p6
                try clear c7
                try clear c7b0
                try clear c8
                try clear c8b0
                try clear c8b1
                try clear c8b2
                try clear c9
                try clear c9b0
                try clear c9b1
                try clear hx102_0
                try clear p102
                try clear p2
                try clear q102
                obtain ⟨x6_3, x37_3, rfl, HA, HK3, HO_6, HB⟩ := hrel
                cases gk with
                | zero => exact absurd HA.out (by simp [bagnallref_WalPack.l1])
                | succ k3 =>
                  have H := HA.out
                  clear HA
                  simp only [bagnallref_WalPack.l1] at H
                  by_cases c10 : x37_3 < (l0.length : Int)
                  · rw [if_pos c10] at H
                    have c10b0 : decide (x37_3 < (l0.length : Int)) = true := decide_eq_true c10
                    clear c10
                    by_cases c11 : 0 ≤ x37_3
                    · rw [if_pos c11] at H
                      have c11b0 : decide (0 ≤ x37_3) = true := decide_eq_true c11
                      clear c11
                      by_cases c12 : x37_3 < (l0.length : Int)
                      · rw [if_pos c12] at H
                        have c12b0 : decide (x37_3 < (l0.length : Int)) = true := decide_eq_true c12
                        clear c12
                        obtain ⟨y104, hy104⟩ : ∃ y_ : List Int, y_ = (([(((rd_L4 l0 x37_3).length : Int)) % 256, 0] : List Int)) := ⟨_, rfl⟩
                        replace H : (if (wrap64 (x37_3 + 1)) = (l0.length : Int) then (if 1 < (y104.length : Int) then ((some (y104.set (1 : Int).toNat 1 : List Int)).bind fun y107 => (if y107.length + (rd_L4 l0 x37_3).length < 140737488355328 then ((some (y107 ++ (rd_L4 l0 x37_3) : List Int)).bind fun y108 => ((bagnallref_walSums.f k3 y108).bind fun bt111 => (if x6_3.length + y108.length < 140737488355328 then ((some (x6_3 ++ y108 : List Int)).bind fun y113 => ((some (([(bt111.1) % 256, (bt111.2) % 256] : List Int) : List Int)).bind fun y116 => (if y113.length + y116.length < 140737488355328 then (bagnallref_WalPack.l1 k3 l0 (y113 ++ y116) l0 (l0.length : Int) (wrap64 (x37_3 + 1))) else (none)))) else (none)))) else (none))) else (none)) else (if y104.length + (rd_L4 l0 x37_3).length < 140737488355328 then ((some (y104 ++ (rd_L4 l0 x37_3) : List Int)).bind fun y122 => ((bagnallref_walSums.f k3 y122).bind fun bt125 => (if x6_3.length + y122.length < 140737488355328 then ((some (x6_3 ++ y122 : List Int)).bind fun y127 => ((some (([(bt125.1) % 256, (bt125.2) % 256] : List Int) : List Int)).bind fun y130 => (if y127.length + y130.length < 140737488355328 then (bagnallref_WalPack.l1 k3 l0 (y127 ++ y130) l0 (l0.length : Int) (wrap64 (x37_3 + 1))) else (none)))) else (none)))) else (none))) = some (r1, r2) := by first | (rw [hy104]; with_reducible exact H) | (have H2_ := (Option.bind_some _ _).symm.trans H; rw [hy104]; with_reducible exact H2_) | (have H2_ := (Option.bind_some _ _).symm.trans H; with_reducible exact H2_) | with_reducible exact H | (rw [hy104]; exact H) | exact H
                        have Ny104 := Aside0.mk hy104
                        clear hy104
                        by_cases c13 : (wrap64 (x37_3 + 1)) = (l0.length : Int)
                        · rw [if_pos c13] at H
                          have c13b0 : ((wrap64 (x37_3 + 1)) == (l0.length : Int)) = true := beq_iff_eq.mpr c13
                          have c13b1 : ((wrap64 (x37_3 + 1)) != (l0.length : Int)) = false := bne_eq_false_iff_eq.mpr c13
                          clear c13
                          by_cases c14 : 1 < (y104.length : Int)
                          · rw [if_pos c14] at H
                            have c14b0 : decide (1 < (y104.length : Int)) = true := decide_eq_true c14
                            have c14b1 : decide (1 < y104.length) = true := decide_eq_true (by omega)
                            clear c14
                            obtain ⟨y107, hy107⟩ : ∃ y_ : List Int, y_ = (y104.set (1 : Int).toNat 1) := ⟨_, rfl⟩
                            replace H : (if y107.length + (rd_L4 l0 x37_3).length < 140737488355328 then ((some (y107 ++ (rd_L4 l0 x37_3) : List Int)).bind fun y108 => ((bagnallref_walSums.f k3 y108).bind fun bt111 => (if x6_3.length + y108.length < 140737488355328 then ((some (x6_3 ++ y108 : List Int)).bind fun y113 => ((some (([(bt111.1) % 256, (bt111.2) % 256] : List Int) : List Int)).bind fun y116 => (if y113.length + y116.length < 140737488355328 then (bagnallref_WalPack.l1 k3 l0 (y113 ++ y116) l0 (l0.length : Int) (wrap64 (x37_3 + 1))) else (none)))) else (none)))) else (none)) = some (r1, r2) := by first | (rw [hy107]; with_reducible exact H) | (have H2_ := (Option.bind_some _ _).symm.trans H; rw [hy107]; with_reducible exact H2_) | (have H2_ := (Option.bind_some _ _).symm.trans H; with_reducible exact H2_) | with_reducible exact H | (rw [hy107]; exact H) | exact H
                            have Ny107 := Aside0.mk hy107
                            clear hy107
                            by_cases c16 : y107.length + (rd_L4 l0 x37_3).length < 140737488355328
                            · rw [if_pos c16] at H
                              have LMc16 := Aside0.mk c16
                              clear c16
                              obtain ⟨y108, hy108⟩ : ∃ y_ : List Int, y_ = (y107 ++ (rd_L4 l0 x37_3)) := ⟨_, rfl⟩
                              replace H : ((bagnallref_walSums.f k3 y108).bind fun bt111 => (if x6_3.length + y108.length < 140737488355328 then ((some (x6_3 ++ y108 : List Int)).bind fun y113 => ((some (([(bt111.1) % 256, (bt111.2) % 256] : List Int) : List Int)).bind fun y116 => (if y113.length + y116.length < 140737488355328 then (bagnallref_WalPack.l1 k3 l0 (y113 ++ y116) l0 (l0.length : Int) (wrap64 (x37_3 + 1))) else (none)))) else (none))) = some (r1, r2) := by first | (rw [hy108]; with_reducible exact H) | (have H2_ := (Option.bind_some _ _).symm.trans H; rw [hy108]; with_reducible exact H2_) | (have H2_ := (Option.bind_some _ _).symm.trans H; with_reducible exact H2_) | with_reducible exact H | (rw [hy108]; exact H) | exact H
                              have Ny108 := Aside0.mk hy108
                              clear hy108
                              replace H := Option.bind_eq_some_iff.mp H
                              obtain ⟨⟨t111, t112⟩, A170, H⟩ := H
                              replace H : (if x6_3.length + y108.length < 140737488355328 then ((some (x6_3 ++ y108 : List Int)).bind fun y113 => ((some (([(t111) % 256, (t112) % 256] : List Int) : List Int)).bind fun y116 => (if y113.length + y116.length < 140737488355328 then (bagnallref_WalPack.l1 k3 l0 (y113 ++ y116) l0 (l0.length : Int) (wrap64 (x37_3 + 1))) else (none)))) else (none)) = some (r1, r2) := H
                              have A17 := Aside0.mk A170
                              clear A170
                              by_cases c18 : x6_3.length + y108.length < 140737488355328
                              · rw [if_pos c18] at H
                                have LMc18 := Aside0.mk c18
                                clear c18
                                obtain ⟨y113, hy113⟩ : ∃ y_ : List Int, y_ = (x6_3 ++ y108) := ⟨_, rfl⟩
                                replace H : ((some (([(t111) % 256, (t112) % 256] : List Int) : List Int)).bind fun y116 => (if y113.length + y116.length < 140737488355328 then (bagnallref_WalPack.l1 k3 l0 (y113 ++ y116) l0 (l0.length : Int) (wrap64 (x37_3 + 1))) else (none))) = some (r1, r2) := by first | (rw [hy113]; with_reducible exact H) | (have H2_ := (Option.bind_some _ _).symm.trans H; rw [hy113]; with_reducible exact H2_) | (have H2_ := (Option.bind_some _ _).symm.trans H; with_reducible exact H2_) | with_reducible exact H | (rw [hy113]; exact H) | exact H
                                have Ny113 := Aside0.mk hy113
                                clear hy113
                                obtain ⟨y116, hy116⟩ : ∃ y_ : List Int, y_ = (([(t111) % 256, (t112) % 256] : List Int)) := ⟨_, rfl⟩
                                replace H : (if y113.length + y116.length < 140737488355328 then (bagnallref_WalPack.l1 k3 l0 (y113 ++ y116) l0 (l0.length : Int) (wrap64 (x37_3 + 1))) else (none)) = some (r1, r2) := by first | (rw [hy116]; with_reducible exact H) | (have H2_ := (Option.bind_some _ _).symm.trans H; rw [hy116]; with_reducible exact H2_) | (have H2_ := (Option.bind_some _ _).symm.trans H; with_reducible exact H2_) | with_reducible exact H | (rw [hy116]; exact H) | exact H
                                have Ny116 := Aside0.mk hy116
                                clear hy116
                                by_cases c19 : y113.length + y116.length < 140737488355328
                                · rw [if_pos c19] at H
                                  have LMc19 := Aside0.mk c19
                                  clear c19
                                  obtain ⟨y119, hy119⟩ : ∃ y_ : List Int, y_ = (y113 ++ y116) := ⟨_, rfl⟩
                                  replace H : (bagnallref_WalPack.l1 k3 l0 y119 l0 (l0.length : Int) (wrap64 (x37_3 + 1))) = some (r1, r2) := by first | (rw [hy119]; with_reducible exact H) | (have H2_ := (Option.bind_some _ _).symm.trans H; rw [hy119]; with_reducible exact H2_) | (have H2_ := (Option.bind_some _ _).symm.trans H; with_reducible exact H2_) | with_reducible exact H | (rw [hy119]; exact H) | exact H
                                  have Ny119 := Aside0.mk hy119
                                  clear hy119
                                  have H' := Aside0.mk H
                                  clear H
                                  have p103 : 0 ≤ (x37_3 : Int) := of_decide_eq_true (by first | (with_reducible assumption) | assumption)
                                  have q103 : x37_3 < (l0.length : Int) := of_decide_eq_true (by first | (with_reducible assumption) | assumption)
                                  obtain ⟨ad103, A103_0, c103_0, e103, hx103_0, hl103_0, hi103_0⟩ := at_L4 HR0.out x37_3 p103 q103
                                  cases e103
                                  try replace hx103_0 := (HB.out.cell (World.block_lt_of_cell? w _ hx103_0)).trans hx103_0
                                  have HR103_0 := Aside0.mk hi103_0
                                  have HC103_0 := Aside0.mk hl103_0
                                  clear hi103_0 hl103_0
                                  replace p103 := eq_true p103
                                  replace q103 := eq_true q103
                                  go_wp2_with (first | ((with_reducible refine gate_dst (N := 45) rfl ?_); (try (refine gate_guard (by rfl) ?_; dsimp only)); refine Kd.R_lit (Kd.int .u8) _ 5 ?hg (N := 45) ?hd (xs := ([(((rd_L4 l0 x37_3).length : Int)) % 256, 0] : List Int)) (inner := [.int .u8 ((((rd_L4 l0 x37_3).length : Int)) % 256), .int .u8 0]) (ok := fun _ => True) (okp := fun _ => True) ?hr ?hp (fun _ hk => hk) trivial (Below.refl _ _) (Nat.le_refl _) (by simp) ?_; (case hd => rfl); (case hg => rfl); (case hr => first | (go_simp; done) | (go_simp; rfl)); (case hp => exact (Reps.one (show Kd.M (Kd.int .u8) _ _ _ ((((rd_L4 l0 x37_3).length : Int)) % 256) [.int .u8 ((((rd_L4 l0 x37_3).length : Int)) % 256)] from rfl) (Reps.one (show Kd.M (Kd.int .u8) _ _ _ 0 [.int .u8 0] from rfl) (Reps.none _ _)))); intro v105 w20 ho21 hb hg_ hnew_; clear hg_ hnew_; (first | rw [← Ny104.out] at ho21 | (simp only [Int.reduceToNat] at ho21; rw [← Ny104.out] at ho21)); have n0_ := Aside0.mk (Kd.R_elder' (by (with_reducible repeat (first | apply Kd.R_alloc | apply Kd.R_drewN | apply Kd.R_drew)); exact HO_6.out) (Kd.R_base ho21) hb); have n1_ := Aside0.mk (Kd.R_lower (Kd.R_new' ho21 (Kd.R_lt (by (with_reducible repeat (first | apply Kd.R_alloc | apply Kd.R_drewN | apply Kd.R_drew)); exact HO_6.out))) (below_size (by repeat (first | (with_reducible first | exact HB.out | apply below_alloc | apply pw_below_drewN | apply below_drew1) | exact HB.out)))); have n2_ := Aside0.mk (below_step (by repeat (first | (with_reducible first | exact HB.out | apply below_alloc | apply pw_below_drewN | apply below_drew1) | exact HB.out)) hb); clear HO_6; clear HB; have HO_6 := n0_; have HO106 := n1_; have HB := n2_; clear n0_ n1_ n2_; clear hb ho21; have p15 : 0 ≤ (1 : Int) := (by omega); have q15 : (1 : Int) < ((y104.length : Int) : Int) := of_decide_eq_true (by first | (with_reducible assumption) | assumption); have qi15 : (1 < y104.length) = True := eq_true (by omega); obtain ⟨go15, co15, eo15, gb15, gl15, cl15, HG15⟩ := Kd.R_form HO106.out (by omega); (first | cases eo15 | (injection eo15 with ea_ en_ ec_; (first | subst ea_ | (injection ea_ with ea_; subst ea_)); subst ec_; clear en_)); have GB15 := Aside0.mk gb15; have GG15 := Aside0.mk HG15; clear gb15 gl15 HG15; obtain ⟨hx15_0, hf15_0⟩ := Kd.R_celln 0 HO106.out (1 : Int) p15 q15; (try rw [show ((1 : Int)).toNat = 1 from rfl] at hx15_0); (try simp only [Nat.reduceMul, Nat.zero_mul, Nat.zero_add, Nat.reduceAdd] at hx15_0); (try rw [show ((1 : Int)).toNat = 1 from rfl] at hf15_0); (try simp only [Nat.reduceMul, Nat.zero_mul, Nat.zero_add, Nat.reduceAdd] at hf15_0); replace p15 := eq_true p15; replace q15 := eq_true q15; have n_ := Aside0.mk (Kd.R_mono (ok' := (fun k_ => some k_ ≠ (u6 : Value).ownBlock)) HO106.out (fun k_ hk => hk.2)); clear HO106; have HO106 := n_; clear n_; obtain ⟨hy22_, hz22_⟩ := Kd.R_celln 0 HO106.out (1 : Int) (by omega) (of_decide_eq_true (by first | (with_reducible assumption) | assumption)); (try simp only [Int.reduceToNat, Int.toNat_zero, Int.toNat_ofNat, Nat.reduceMul, Nat.zero_mul, Nat.zero_add] at hy22_ hz22_); (try rw [show ((1 : Int)).toNat = 1 from rfl] at hy22_); (try rw [show ((1 : Int)).toNat = 1 from rfl] at hz22_); have HP22 := Kd.R_putg HO106.out (1 : Int) 1) | ((with_reducible refine gate_store (t := 5) (p := 52) rfl ?_); refine store_event (t := 5) (p := 52) (v := ?vo_w23) (w1 := (w20.setCell ⟨go15, (1 : Int).toNat, none⟩ (.int .u8 1))) ?hg ?ho ?hn ?hr ?_; (case ho => rfl); (case hg => rfl); (case hn => rfl); (case hr => first | (go_simp; done) | (go_simp; rfl)); intro w23 hw; have hg : w20.grownBy w23 (some go15) := (by rw [hw]; exact HP22.2); have hp_ : Kd.R (Kd.int .u8) 5 w23 w.heap.size (fun k_ => some k_ ≠ (u6 : Value).ownBlock) (.slice (some ⟨go15, 0, none⟩) y104.length co15) y107 := (by rw [hw, Ny107.out]; exact HP22.1); clear HP22; have n0_ := Aside0.mk (Kd.R_after (v := (.slice (some ⟨go15, 0, none⟩) y104.length co15)) (v1 := (.slice (some ⟨go15, 0, none⟩) y104.length co15)) (ok := (fun _ => True)) (by (with_reducible repeat (first | apply Kd.R_alloc | apply Kd.R_drewN | apply Kd.R_drew)); exact HO_6.out) hg (.inl rfl)); have n1_ := Aside0.mk (hp_); have n2_ := Aside0.mk ((by rw [hw]; exact below_set (HB.out) GB15.out : Below w.heap.size w w23)); clear HO_6; clear HO106; clear HB; have HO_6 := n0_; have HO106 := n1_; have HB := n2_; clear n0_ n1_ n2_; clear hg hw hp_) | ((with_reducible refine gate_builtin (b := .append) (xs := #[.tmp 53, .tmp 54]) rfl ?_); (try (refine gate_guard (by rfl) ?_; dsimp only)); at_builtin; refine Kd.R_append_rows (Kd.int .u8) (w0 := w) w.heap.size rfl (.tmp 53) (.tmp 54) 36 5 (.int .u8 0) 1 rfl Try.underlying36 info5 rfl (by decide) (by omega) (.slice (some ⟨go15, 0, none⟩) y104.length co15) y107 (rd_L4 l0 x37_3) _ _ _ (fun k_ => some k_ ≠ (u6 : Value).ownBlock) (fun _ => False) rfl rfl ?aO ?aR (fun _ _ h => h) (fun _ h => h.elim) ?aF ?aB ?aS ?aL ?_; (case aR => repeat (first | exact (Kd.C_below HR103_0.out HB.out) | (with_reducible refine Kd.C_alloc ?_ _) | (with_reducible refine Kd.C_drewN ?_ _) | (with_reducible refine Kd.C_drew ?_))); (case aB => exact (by repeat (first | (with_reducible first | exact HB.out | apply below_alloc | apply pw_below_drewN | apply below_drew1) | exact HB.out))); (case aF => exact (fun k_ hk => Kd.fresh' (Kd.R_lt (by (with_reducible repeat (first | apply Kd.R_alloc | apply Kd.R_drewN | apply Kd.R_drew)); exact HO_6.out)) k_ hk)); (case aO => exact (by (with_reducible repeat (first | apply Kd.R_alloc | apply Kd.R_drewN | apply Kd.R_drew)); exact HO106.out)); (case aS => exact (below_size (by repeat (first | (with_reducible first | exact HB.out | apply below_alloc | apply pw_below_drewN | apply below_drew1) | exact HB.out)))); (case aL => have := LMc16.out; omega); intro v109 w24 ho hb hg hat; rw [← Ny108.out] at ho; have n0_ := Aside0.mk (Kd.R_after (ok := (fun _ => True)) (by (with_reducible repeat (first | apply Kd.R_alloc | apply Kd.R_drewN | apply Kd.R_drew)); exact HO_6.out) hg hat); have n1_ := Aside0.mk (hb); have n2_ := Aside0.mk (ho); clear HO_6; clear HB; clear HO106; have HO_6 := n0_; have HB := n1_; have HO110 := n2_; clear n0_ n1_ n2_; clear ho hb hg hat; obtain ⟨Ao25, co25, eo25⟩ := Kd.R_slice HO110.out; subst eo25) | ((with_reducible refine gate_callee (f := 55) rfl ?_); refine goesL_ (some 58) rfl rfl Try.func55 (by kernel_rfl) rfl #[.slice Ao25 y108.length co25] rfl (by (try simp only [List.map_toArray, List.map_cons, List.map_nil]); first | done | rfl | (simp only [List.length_drop, List.length_take]; rfl)) ?_; (with_reducible refine (bagnallref_walSums.calls k3 _ _ y108 t111 t112 _ ?side1 ?side2 A17.out).mono ?_); (case side1 => repeat (first | exact (Kd.R_reads' HO110.out).2.2 | (with_reducible refine Kd.C_alloc ?_ _) | (with_reducible refine Kd.C_drewN ?_ _) | (with_reducible refine Kd.C_drew ?_))); (case side2 => exact (Kd.R_reads' HO110.out).2.1); rintro e w' ⟨rfl, ⟨nd, rfl⟩⟩; refine ⟨_, rfl, ?_⟩) | ((with_reducible refine gate_builtin (b := .append) (xs := #[.tmp 61, .tmp 62]) rfl ?_); (try (refine gate_guard (by rfl) ?_; dsimp only)); at_builtin; refine Kd.R_append_rows (Kd.int .u8) (w0 := w) w.heap.size rfl (.tmp 61) (.tmp 62) 36 5 (.int .u8 0) 1 rfl Try.underlying36 info5 rfl (by decide) (by omega) u6 x6_3 y108 _ _ _ (fun k_ => some k_ ≠ (.slice Ao25 y108.length co25 : Value).ownBlock) (fun _ => False) rfl rfl ?aO ?aR (fun _ _ h => h) (fun _ h => h.elim) ?aF ?aB ?aS ?aL ?_; (case aR => repeat (first | exact (Kd.R_reads' HO110.out).2.2 | (with_reducible refine Kd.C_alloc ?_ _) | (with_reducible refine Kd.C_drewN ?_ _) | (with_reducible refine Kd.C_drew ?_))); (case aB => exact (by repeat (first | (with_reducible first | exact HB.out | apply below_alloc | apply pw_below_drewN | apply below_drew1) | exact HB.out))); (case aF => exact (fun k_ hk => Kd.fresh' (Kd.R_lt (by (with_reducible repeat (first | apply Kd.R_alloc | apply Kd.R_drewN | apply Kd.R_drew)); exact HO110.out)) k_ hk)); (case aO => exact (by (with_reducible repeat (first | apply Kd.R_alloc | apply Kd.R_drewN | apply Kd.R_drew)); exact Kd.R_mono HO_6.out (fun _ hk => hk.2))); (case aS => exact (below_size (by repeat (first | (with_reducible first | exact HB.out | apply below_alloc | apply pw_below_drewN | apply below_drew1) | exact HB.out)))); (case aL => have := LMc18.out; omega); intro v114 w26 ho hb hg hat; rw [← Ny113.out] at ho; have n0_ := Aside0.mk (Kd.R_after (ok := (fun _ => True)) (by (with_reducible repeat (first | apply Kd.R_alloc | apply Kd.R_drewN | apply Kd.R_drew)); exact Kd.R_mono HO110.out (fun _ hk => ⟨trivial, hk⟩)) hg hat); have n1_ := Aside0.mk (hb); have n2_ := Aside0.mk (ho); clear HO110; clear HB; clear HO_6; have HO110 := n0_; have HB := n1_; have HO115 := n2_; clear n0_ n1_ n2_; clear ho hb hg hat) | ((with_reducible refine gate_dst (N := 68) rfl ?_); (try (refine gate_guard (by rfl) ?_; dsimp only)); refine Kd.R_lit (Kd.int .u8) _ 5 ?hg (N := 68) ?hd (xs := ([(t111) % 256, (t112) % 256] : List Int)) (inner := [.int .u8 ((t111) % 256), .int .u8 ((t112) % 256)]) (ok := fun _ => True) (okp := fun _ => True) ?hr ?hp (fun _ hk => hk) trivial (Below.refl _ _) (Nat.le_refl _) (by simp) ?_; (case hd => rfl); (case hg => rfl); (case hr => first | (go_simp; done) | (go_simp; rfl)); (case hp => exact (Reps.one (show Kd.M (Kd.int .u8) _ _ _ ((t111) % 256) [.int .u8 ((t111) % 256)] from rfl) (Reps.one (show Kd.M (Kd.int .u8) _ _ _ ((t112) % 256) [.int .u8 ((t112) % 256)] from rfl) (Reps.none _ _)))); intro v117 w27 ho28 hb hg_ hnew_; clear hg_ hnew_; (first | rw [← Ny116.out] at ho28 | (simp only [Int.reduceToNat] at ho28; rw [← Ny116.out] at ho28)); have n0_ := Aside0.mk (Kd.R_elder' (by (with_reducible repeat (first | apply Kd.R_alloc | apply Kd.R_drewN | apply Kd.R_drew)); exact HO110.out) (Kd.R_base ho28) hb); have n1_ := Aside0.mk (Kd.R_elder' (by (with_reducible repeat (first | apply Kd.R_alloc | apply Kd.R_drewN | apply Kd.R_drew)); exact HO115.out) (Kd.R_base ho28) hb); have n2_ := Aside0.mk (Kd.R_lower (Kd.R_new' (Kd.R_new' ho28 (Kd.R_lt (by (with_reducible repeat (first | apply Kd.R_alloc | apply Kd.R_drewN | apply Kd.R_drew)); exact HO110.out))) (Kd.R_lt (by (with_reducible repeat (first | apply Kd.R_alloc | apply Kd.R_drewN | apply Kd.R_drew)); exact HO115.out))) (below_size (by repeat (first | (with_reducible first | exact HB.out | apply below_alloc | apply pw_below_drewN | apply below_drew1) | exact HB.out)))); have n3_ := Aside0.mk (below_step (by repeat (first | (with_reducible first | exact HB.out | apply below_alloc | apply pw_below_drewN | apply below_drew1) | exact HB.out)) hb); clear HO110; clear HO115; clear HB; have HO110 := n0_; have HO115 := n1_; have HO118 := n2_; have HB := n3_; clear n0_ n1_ n2_ n3_; clear hb ho28; obtain ⟨Ao30, co30, eo30⟩ := Kd.R_slice HO118.out; subst eo30) | ((with_reducible refine gate_builtin (b := .append) (xs := #[.tmp 63, .tmp 68]) rfl ?_); (try (refine gate_guard (by rfl) ?_; dsimp only)); at_builtin; refine Kd.R_append_rows (Kd.int .u8) (w0 := w) w.heap.size rfl (.tmp 63) (.tmp 68) 36 5 (.int .u8 0) 1 rfl Try.underlying36 info5 rfl (by decide) (by omega) v114 y113 y116 _ _ _ (fun k_ => some k_ ≠ (.slice Ao25 y108.length co25 : Value).ownBlock ∧ some k_ ≠ (.slice Ao30 y116.length co30 : Value).ownBlock) (fun _ => False) rfl rfl ?aO ?aR (fun _ _ h => h) (fun _ h => h.elim) ?aF ?aB ?aS ?aL ?_; (case aR => repeat (first | exact (Kd.R_reads' HO118.out).2.2 | (with_reducible refine Kd.C_alloc ?_ _) | (with_reducible refine Kd.C_drewN ?_ _) | (with_reducible refine Kd.C_drew ?_))); (case aB => exact (by repeat (first | (with_reducible first | exact HB.out | apply below_alloc | apply pw_below_drewN | apply below_drew1) | exact HB.out))); (case aF => exact (fun k_ hk => ⟨Kd.fresh' (Kd.R_lt (by (with_reducible repeat (first | apply Kd.R_alloc | apply Kd.R_drewN | apply Kd.R_drew)); exact HO110.out)) k_ hk, Kd.fresh' (Kd.R_lt (by (with_reducible repeat (first | apply Kd.R_alloc | apply Kd.R_drewN | apply Kd.R_drew)); exact HO118.out)) k_ hk⟩)); (case aO => exact (by (with_reducible repeat (first | apply Kd.R_alloc | apply Kd.R_drewN | apply Kd.R_drew)); exact HO115.out)); (case aS => exact (below_size (by repeat (first | (with_reducible first | exact HB.out | apply below_alloc | apply pw_below_drewN | apply below_drew1) | exact HB.out)))); (case aL => have := LMc19.out; omega); intro v120 w29 ho hb hg hat; rw [← Ny119.out] at ho; have n0_ := Aside0.mk (Kd.R_after (ok := (fun k_ => some k_ ≠ (.slice Ao30 y116.length co30 : Value).ownBlock)) (by (with_reducible repeat (first | apply Kd.R_alloc | apply Kd.R_drewN | apply Kd.R_drew)); exact Kd.R_mono HO110.out (fun _ hk => ⟨hk.2, hk.1.2⟩)) hg hat); have n1_ := Aside0.mk (Kd.R_after (ok := (fun k_ => some k_ ≠ (.slice Ao25 y108.length co25 : Value).ownBlock)) (by (with_reducible repeat (first | apply Kd.R_alloc | apply Kd.R_drewN | apply Kd.R_drew)); exact Kd.R_mono HO118.out (fun _ hk => ⟨hk.1.2, hk.2⟩)) hg hat); have n2_ := Aside0.mk (hb); have n3_ := Aside0.mk (ho); clear HO110; clear HO118; clear HB; clear HO115; have HO110 := n0_; have HO118 := n1_; have HB := n2_; have HO121 := n3_; clear n0_ n1_ n2_ n3_; clear ho hb hg hat))
                                  go_roundg k3
                                  case measure => have := HJ1.out; have := HK2.out; have := HK3.out; omega
                                  case rel => exact ⟨(y119), (wrap64 (x37_3 + 1)), (by first | rfl | (simp; done) | (simp [*]; done)), H', ⟨by have := HJ1.out; have := HK2.out; have := HK3.out; omega⟩, ⟨by (with_reducible repeat (first | apply Kd.R_alloc | apply Kd.R_drewN | apply Kd.R_drew)); exact Kd.R_mono HO121.out (fun _ hk => trivial)⟩, ⟨by repeat (first | (with_reducible first | exact HB.out | apply below_alloc | apply pw_below_drewN | apply below_drew1) | exact HB.out)⟩⟩
                                · rw [if_neg c19] at H
                                  exact absurd H (by simp)
                              · rw [if_neg c18] at H
                                exact absurd H (by simp)
                            · rw [if_neg c16] at H
                              exact absurd H (by simp)
                          · rw [if_neg c14] at H
                            exact absurd H (by simp)
                        · rw [if_neg c13] at H
                          have c13b0 : ((wrap64 (x37_3 + 1)) == (l0.length : Int)) = false := beq_eq_false_iff_ne.mpr c13
                          have c13b1 : ((wrap64 (x37_3 + 1)) != (l0.length : Int)) = true := bne_iff_ne.mpr c13
                          by_cases c31 : y104.length + (rd_L4 l0 x37_3).length < 140737488355328
                          · rw [if_pos c31] at H
                            have LMc31 := Aside0.mk c31
                            clear c31
                            obtain ⟨y122, hy122⟩ : ∃ y_ : List Int, y_ = (y104 ++ (rd_L4 l0 x37_3)) := ⟨_, rfl⟩
                            replace H : ((bagnallref_walSums.f k3 y122).bind fun bt125 => (if x6_3.length + y122.length < 140737488355328 then ((some (x6_3 ++ y122 : List Int)).bind fun y127 => ((some (([(bt125.1) % 256, (bt125.2) % 256] : List Int) : List Int)).bind fun y130 => (if y127.length + y130.length < 140737488355328 then (bagnallref_WalPack.l1 k3 l0 (y127 ++ y130) l0 (l0.length : Int) (wrap64 (x37_3 + 1))) else (none)))) else (none))) = some (r1, r2) := by first | (rw [hy122]; with_reducible exact H) | (have H2_ := (Option.bind_some _ _).symm.trans H; rw [hy122]; with_reducible exact H2_) | (have H2_ := (Option.bind_some _ _).symm.trans H; with_reducible exact H2_) | with_reducible exact H | (rw [hy122]; exact H) | exact H
                            have Ny122 := Aside0.mk hy122
                            clear hy122
                            replace H := Option.bind_eq_some_iff.mp H
                            obtain ⟨⟨t125, t126⟩, A320, H⟩ := H
                            replace H : (if x6_3.length + y122.length < 140737488355328 then ((some (x6_3 ++ y122 : List Int)).bind fun y127 => ((some (([(t125) % 256, (t126) % 256] : List Int) : List Int)).bind fun y130 => (if y127.length + y130.length < 140737488355328 then (bagnallref_WalPack.l1 k3 l0 (y127 ++ y130) l0 (l0.length : Int) (wrap64 (x37_3 + 1))) else (none)))) else (none)) = some (r1, r2) := H
                            have A32 := Aside0.mk A320
                            clear A320
                            by_cases c33 : x6_3.length + y122.length < 140737488355328
                            · rw [if_pos c33] at H
                              have LMc33 := Aside0.mk c33
                              clear c33
                              obtain ⟨y127, hy127⟩ : ∃ y_ : List Int, y_ = (x6_3 ++ y122) := ⟨_, rfl⟩
                              replace H : ((some (([(t125) % 256, (t126) % 256] : List Int) : List Int)).bind fun y130 => (if y127.length + y130.length < 140737488355328 then (bagnallref_WalPack.l1 k3 l0 (y127 ++ y130) l0 (l0.length : Int) (wrap64 (x37_3 + 1))) else (none))) = some (r1, r2) := by first | (rw [hy127]; with_reducible exact H) | (have H2_ := (Option.bind_some _ _).symm.trans H; rw [hy127]; with_reducible exact H2_) | (have H2_ := (Option.bind_some _ _).symm.trans H; with_reducible exact H2_) | with_reducible exact H | (rw [hy127]; exact H) | exact H
                              have Ny127 := Aside0.mk hy127
                              clear hy127
                              obtain ⟨y130, hy130⟩ : ∃ y_ : List Int, y_ = (([(t125) % 256, (t126) % 256] : List Int)) := ⟨_, rfl⟩
                              replace H : (if y127.length + y130.length < 140737488355328 then (bagnallref_WalPack.l1 k3 l0 (y127 ++ y130) l0 (l0.length : Int) (wrap64 (x37_3 + 1))) else (none)) = some (r1, r2) := by first | (rw [hy130]; with_reducible exact H) | (have H2_ := (Option.bind_some _ _).symm.trans H; rw [hy130]; with_reducible exact H2_) | (have H2_ := (Option.bind_some _ _).symm.trans H; with_reducible exact H2_) | with_reducible exact H | (rw [hy130]; exact H) | exact H
                              have Ny130 := Aside0.mk hy130
                              clear hy130
                              by_cases c34 : y127.length + y130.length < 140737488355328
                              · rw [if_pos c34] at H
                                have LMc34 := Aside0.mk c34
                                clear c34
                                obtain ⟨y133, hy133⟩ : ∃ y_ : List Int, y_ = (y127 ++ y130) := ⟨_, rfl⟩
                                replace H : (bagnallref_WalPack.l1 k3 l0 y133 l0 (l0.length : Int) (wrap64 (x37_3 + 1))) = some (r1, r2) := by first | (rw [hy133]; with_reducible exact H) | (have H2_ := (Option.bind_some _ _).symm.trans H; rw [hy133]; with_reducible exact H2_) | (have H2_ := (Option.bind_some _ _).symm.trans H; with_reducible exact H2_) | with_reducible exact H | (rw [hy133]; exact H) | exact H
                                have Ny133 := Aside0.mk hy133
                                clear hy133
                                have H' := Aside0.mk H
                                clear H
                                have p103 : 0 ≤ (x37_3 : Int) := of_decide_eq_true (by first | (with_reducible assumption) | assumption)
                                have q103 : x37_3 < (l0.length : Int) := of_decide_eq_true (by first | (with_reducible assumption) | assumption)
                                obtain ⟨ad103, A103_0, c103_0, e103, hx103_0, hl103_0, hi103_0⟩ := at_L4 HR0.out x37_3 p103 q103
                                cases e103
                                try replace hx103_0 := (HB.out.cell (World.block_lt_of_cell? w _ hx103_0)).trans hx103_0
                                have HR103_0 := Aside0.mk hi103_0
                                have HC103_0 := Aside0.mk hl103_0
                                clear hi103_0 hl103_0
                                replace p103 := eq_true p103
                                replace q103 := eq_true q103
                                go_wp2_with (first | ((with_reducible refine gate_dst (N := 45) rfl ?_); (try (refine gate_guard (by rfl) ?_; dsimp only)); refine Kd.R_lit (Kd.int .u8) _ 5 ?hg (N := 45) ?hd (xs := ([(((rd_L4 l0 x37_3).length : Int)) % 256, 0] : List Int)) (inner := [.int .u8 ((((rd_L4 l0 x37_3).length : Int)) % 256), .int .u8 0]) (ok := fun _ => True) (okp := fun _ => True) ?hr ?hp (fun _ hk => hk) trivial (Below.refl _ _) (Nat.le_refl _) (by simp) ?_; (case hd => rfl); (case hg => rfl); (case hr => first | (go_simp; done) | (go_simp; rfl)); (case hp => exact (Reps.one (show Kd.M (Kd.int .u8) _ _ _ ((((rd_L4 l0 x37_3).length : Int)) % 256) [.int .u8 ((((rd_L4 l0 x37_3).length : Int)) % 256)] from rfl) (Reps.one (show Kd.M (Kd.int .u8) _ _ _ 0 [.int .u8 0] from rfl) (Reps.none _ _)))); intro v105 w35 ho36 hb hg_ hnew_; clear hg_ hnew_; (first | rw [← Ny104.out] at ho36 | (simp only [Int.reduceToNat] at ho36; rw [← Ny104.out] at ho36)); have n0_ := Aside0.mk (Kd.R_elder' (by (with_reducible repeat (first | apply Kd.R_alloc | apply Kd.R_drewN | apply Kd.R_drew)); exact HO_6.out) (Kd.R_base ho36) hb); have n1_ := Aside0.mk (Kd.R_lower (Kd.R_new' ho36 (Kd.R_lt (by (with_reducible repeat (first | apply Kd.R_alloc | apply Kd.R_drewN | apply Kd.R_drew)); exact HO_6.out))) (below_size (by repeat (first | (with_reducible first | exact HB.out | apply below_alloc | apply pw_below_drewN | apply below_drew1) | exact HB.out)))); have n2_ := Aside0.mk (below_step (by repeat (first | (with_reducible first | exact HB.out | apply below_alloc | apply pw_below_drewN | apply below_drew1) | exact HB.out)) hb); clear HO_6; clear HB; have HO_6 := n0_; have HO106 := n1_; have HB := n2_; clear n0_ n1_ n2_; clear hb ho36) | ((with_reducible refine gate_builtin (b := .append) (xs := #[.tmp 53, .tmp 54]) rfl ?_); (try (refine gate_guard (by rfl) ?_; dsimp only)); at_builtin; refine Kd.R_append_rows (Kd.int .u8) (w0 := w) w.heap.size rfl (.tmp 53) (.tmp 54) 36 5 (.int .u8 0) 1 rfl Try.underlying36 info5 rfl (by decide) (by omega) v105 y104 (rd_L4 l0 x37_3) _ _ _ (fun k_ => some k_ ≠ (u6 : Value).ownBlock) (fun _ => False) rfl rfl ?aO ?aR (fun _ _ h => h) (fun _ h => h.elim) ?aF ?aB ?aS ?aL ?_; (case aR => repeat (first | exact (Kd.C_below HR103_0.out HB.out) | (with_reducible refine Kd.C_alloc ?_ _) | (with_reducible refine Kd.C_drewN ?_ _) | (with_reducible refine Kd.C_drew ?_))); (case aB => exact (by repeat (first | (with_reducible first | exact HB.out | apply below_alloc | apply pw_below_drewN | apply below_drew1) | exact HB.out))); (case aF => exact (fun k_ hk => Kd.fresh' (Kd.R_lt (by (with_reducible repeat (first | apply Kd.R_alloc | apply Kd.R_drewN | apply Kd.R_drew)); exact HO_6.out)) k_ hk)); (case aO => exact (by (with_reducible repeat (first | apply Kd.R_alloc | apply Kd.R_drewN | apply Kd.R_drew)); exact Kd.R_mono HO106.out (fun _ hk => hk.2))); (case aS => exact (below_size (by repeat (first | (with_reducible first | exact HB.out | apply below_alloc | apply pw_below_drewN | apply below_drew1) | exact HB.out)))); (case aL => have := LMc31.out; omega); intro v123 w37 ho hb hg hat; rw [← Ny122.out] at ho; have n0_ := Aside0.mk (Kd.R_after (ok := (fun _ => True)) (by (with_reducible repeat (first | apply Kd.R_alloc | apply Kd.R_drewN | apply Kd.R_drew)); exact HO_6.out) hg hat); have n1_ := Aside0.mk (hb); have n2_ := Aside0.mk (ho); clear HO_6; clear HB; clear HO106; have HO_6 := n0_; have HB := n1_; have HO124 := n2_; clear n0_ n1_ n2_; clear ho hb hg hat; obtain ⟨Ao38, co38, eo38⟩ := Kd.R_slice HO124.out; subst eo38) | ((with_reducible refine gate_callee (f := 55) rfl ?_); refine goesL_ (some 58) rfl rfl Try.func55 (by kernel_rfl) rfl #[.slice Ao38 y122.length co38] rfl (by (try simp only [List.map_toArray, List.map_cons, List.map_nil]); first | done | rfl | (simp only [List.length_drop, List.length_take]; rfl)) ?_; (with_reducible refine (bagnallref_walSums.calls k3 _ _ y122 t125 t126 _ ?side1 ?side2 A32.out).mono ?_); (case side1 => repeat (first | exact (Kd.R_reads' HO124.out).2.2 | (with_reducible refine Kd.C_alloc ?_ _) | (with_reducible refine Kd.C_drewN ?_ _) | (with_reducible refine Kd.C_drew ?_))); (case side2 => exact (Kd.R_reads' HO124.out).2.1); rintro e w' ⟨rfl, ⟨nd, rfl⟩⟩; refine ⟨_, rfl, ?_⟩) | ((with_reducible refine gate_builtin (b := .append) (xs := #[.tmp 61, .tmp 62]) rfl ?_); (try (refine gate_guard (by rfl) ?_; dsimp only)); at_builtin; refine Kd.R_append_rows (Kd.int .u8) (w0 := w) w.heap.size rfl (.tmp 61) (.tmp 62) 36 5 (.int .u8 0) 1 rfl Try.underlying36 info5 rfl (by decide) (by omega) u6 x6_3 y122 _ _ _ (fun k_ => some k_ ≠ (.slice Ao38 y122.length co38 : Value).ownBlock) (fun _ => False) rfl rfl ?aO ?aR (fun _ _ h => h) (fun _ h => h.elim) ?aF ?aB ?aS ?aL ?_; (case aR => repeat (first | exact (Kd.R_reads' HO124.out).2.2 | (with_reducible refine Kd.C_alloc ?_ _) | (with_reducible refine Kd.C_drewN ?_ _) | (with_reducible refine Kd.C_drew ?_))); (case aB => exact (by repeat (first | (with_reducible first | exact HB.out | apply below_alloc | apply pw_below_drewN | apply below_drew1) | exact HB.out))); (case aF => exact (fun k_ hk => Kd.fresh' (Kd.R_lt (by (with_reducible repeat (first | apply Kd.R_alloc | apply Kd.R_drewN | apply Kd.R_drew)); exact HO124.out)) k_ hk)); (case aO => exact (by (with_reducible repeat (first | apply Kd.R_alloc | apply Kd.R_drewN | apply Kd.R_drew)); exact Kd.R_mono HO_6.out (fun _ hk => hk.2))); (case aS => exact (below_size (by repeat (first | (with_reducible first | exact HB.out | apply below_alloc | apply pw_below_drewN | apply below_drew1) | exact HB.out)))); (case aL => have := LMc33.out; omega); intro v128 w39 ho hb hg hat; rw [← Ny127.out] at ho; have n0_ := Aside0.mk (Kd.R_after (ok := (fun _ => True)) (by (with_reducible repeat (first | apply Kd.R_alloc | apply Kd.R_drewN | apply Kd.R_drew)); exact Kd.R_mono HO124.out (fun _ hk => ⟨trivial, hk⟩)) hg hat); have n1_ := Aside0.mk (hb); have n2_ := Aside0.mk (ho); clear HO124; clear HB; clear HO_6; have HO124 := n0_; have HB := n1_; have HO129 := n2_; clear n0_ n1_ n2_; clear ho hb hg hat) | ((with_reducible refine gate_dst (N := 68) rfl ?_); (try (refine gate_guard (by rfl) ?_; dsimp only)); refine Kd.R_lit (Kd.int .u8) _ 5 ?hg (N := 68) ?hd (xs := ([(t125) % 256, (t126) % 256] : List Int)) (inner := [.int .u8 ((t125) % 256), .int .u8 ((t126) % 256)]) (ok := fun _ => True) (okp := fun _ => True) ?hr ?hp (fun _ hk => hk) trivial (Below.refl _ _) (Nat.le_refl _) (by simp) ?_; (case hd => rfl); (case hg => rfl); (case hr => first | (go_simp; done) | (go_simp; rfl)); (case hp => exact (Reps.one (show Kd.M (Kd.int .u8) _ _ _ ((t125) % 256) [.int .u8 ((t125) % 256)] from rfl) (Reps.one (show Kd.M (Kd.int .u8) _ _ _ ((t126) % 256) [.int .u8 ((t126) % 256)] from rfl) (Reps.none _ _)))); intro v131 w40 ho41 hb hg_ hnew_; clear hg_ hnew_; (first | rw [← Ny130.out] at ho41 | (simp only [Int.reduceToNat] at ho41; rw [← Ny130.out] at ho41)); have n0_ := Aside0.mk (Kd.R_elder' (by (with_reducible repeat (first | apply Kd.R_alloc | apply Kd.R_drewN | apply Kd.R_drew)); exact HO124.out) (Kd.R_base ho41) hb); have n1_ := Aside0.mk (Kd.R_elder' (by (with_reducible repeat (first | apply Kd.R_alloc | apply Kd.R_drewN | apply Kd.R_drew)); exact HO129.out) (Kd.R_base ho41) hb); have n2_ := Aside0.mk (Kd.R_lower (Kd.R_new' (Kd.R_new' ho41 (Kd.R_lt (by (with_reducible repeat (first | apply Kd.R_alloc | apply Kd.R_drewN | apply Kd.R_drew)); exact HO124.out))) (Kd.R_lt (by (with_reducible repeat (first | apply Kd.R_alloc | apply Kd.R_drewN | apply Kd.R_drew)); exact HO129.out))) (below_size (by repeat (first | (with_reducible first | exact HB.out | apply below_alloc | apply pw_below_drewN | apply below_drew1) | exact HB.out)))); have n3_ := Aside0.mk (below_step (by repeat (first | (with_reducible first | exact HB.out | apply below_alloc | apply pw_below_drewN | apply below_drew1) | exact HB.out)) hb); clear HO124; clear HO129; clear HB; have HO124 := n0_; have HO129 := n1_; have HO132 := n2_; have HB := n3_; clear n0_ n1_ n2_ n3_; clear hb ho41; obtain ⟨Ao43, co43, eo43⟩ := Kd.R_slice HO132.out; subst eo43) | ((with_reducible refine gate_builtin (b := .append) (xs := #[.tmp 63, .tmp 68]) rfl ?_); (try (refine gate_guard (by rfl) ?_; dsimp only)); at_builtin; refine Kd.R_append_rows (Kd.int .u8) (w0 := w) w.heap.size rfl (.tmp 63) (.tmp 68) 36 5 (.int .u8 0) 1 rfl Try.underlying36 info5 rfl (by decide) (by omega) v128 y127 y130 _ _ _ (fun k_ => some k_ ≠ (.slice Ao38 y122.length co38 : Value).ownBlock ∧ some k_ ≠ (.slice Ao43 y130.length co43 : Value).ownBlock) (fun _ => False) rfl rfl ?aO ?aR (fun _ _ h => h) (fun _ h => h.elim) ?aF ?aB ?aS ?aL ?_; (case aR => repeat (first | exact (Kd.R_reads' HO132.out).2.2 | (with_reducible refine Kd.C_alloc ?_ _) | (with_reducible refine Kd.C_drewN ?_ _) | (with_reducible refine Kd.C_drew ?_))); (case aB => exact (by repeat (first | (with_reducible first | exact HB.out | apply below_alloc | apply pw_below_drewN | apply below_drew1) | exact HB.out))); (case aF => exact (fun k_ hk => ⟨Kd.fresh' (Kd.R_lt (by (with_reducible repeat (first | apply Kd.R_alloc | apply Kd.R_drewN | apply Kd.R_drew)); exact HO124.out)) k_ hk, Kd.fresh' (Kd.R_lt (by (with_reducible repeat (first | apply Kd.R_alloc | apply Kd.R_drewN | apply Kd.R_drew)); exact HO132.out)) k_ hk⟩)); (case aO => exact (by (with_reducible repeat (first | apply Kd.R_alloc | apply Kd.R_drewN | apply Kd.R_drew)); exact HO129.out)); (case aS => exact (below_size (by repeat (first | (with_reducible first | exact HB.out | apply below_alloc | apply pw_below_drewN | apply below_drew1) | exact HB.out)))); (case aL => have := LMc34.out; omega); intro v134 w42 ho hb hg hat; rw [← Ny133.out] at ho; have n0_ := Aside0.mk (Kd.R_after (ok := (fun k_ => some k_ ≠ (.slice Ao43 y130.length co43 : Value).ownBlock)) (by (with_reducible repeat (first | apply Kd.R_alloc | apply Kd.R_drewN | apply Kd.R_drew)); exact Kd.R_mono HO124.out (fun _ hk => ⟨hk.2, hk.1.2⟩)) hg hat); have n1_ := Aside0.mk (Kd.R_after (ok := (fun k_ => some k_ ≠ (.slice Ao38 y122.length co38 : Value).ownBlock)) (by (with_reducible repeat (first | apply Kd.R_alloc | apply Kd.R_drewN | apply Kd.R_drew)); exact Kd.R_mono HO132.out (fun _ hk => ⟨hk.1.2, hk.2⟩)) hg hat); have n2_ := Aside0.mk (hb); have n3_ := Aside0.mk (ho); clear HO124; clear HO132; clear HB; clear HO129; have HO124 := n0_; have HO132 := n1_; have HB := n2_; have HO135 := n3_; clear n0_ n1_ n2_ n3_; clear ho hb hg hat))
                                go_roundg k3
                                case measure => have := HJ1.out; have := HK2.out; have := HK3.out; omega
                                case rel => exact ⟨(y133), (wrap64 (x37_3 + 1)), (by first | rfl | (simp; done) | (simp [*]; done)), H', ⟨by have := HJ1.out; have := HK2.out; have := HK3.out; omega⟩, ⟨by (with_reducible repeat (first | apply Kd.R_alloc | apply Kd.R_drewN | apply Kd.R_drew)); exact Kd.R_mono HO135.out (fun _ hk => trivial)⟩, ⟨by repeat (first | (with_reducible first | exact HB.out | apply below_alloc | apply pw_below_drewN | apply below_drew1) | exact HB.out)⟩⟩
                              · rw [if_neg c34] at H
                                exact absurd H (by simp)
                            · rw [if_neg c33] at H
                              exact absurd H (by simp)
                          · rw [if_neg c31] at H
                            exact absurd H (by simp)
                      · rw [if_neg c12] at H
                        exact absurd H (by simp)
                    · rw [if_neg c11] at H
                      exact absurd H (by simp)
                  · rw [if_neg c10] at H
                    have c10b0 : decide (x37_3 < (l0.length : Int)) = false := decide_eq_false c10
                    clear c10
                    simp only [Option.some.injEq, Prod.mk.injEq] at H
                    obtain ⟨rfl, rfl⟩ := H
                    go_wp2
                    go_ret2
                    exact ⟨_, by first | rfl | (simp [errW_none, errW_some] <;> rfl) | (simp [*, errW_none, errW_some] <;> rfl), by (with_reducible repeat (first | apply Kd.R_alloc | apply Kd.R_drewN | apply Kd.R_drew)); exact HO_6.out, by repeat (first | (with_reducible first | exact HB.out | apply below_alloc | apply pw_below_drewN | apply below_drew1) | exact HB.out)⟩

/-! ### bagnalllaw_sameBytes: function 29 -/
def bagnalllaw_sameBytes.l0 : Nat → List Int → List Int → Int → Option (Bool)
  | 0, _, _, _ => none
  | k + 1, x0, x1, x5 => if x5 < (x0.length : Int) then (if 0 ≤ x5 then (if x5 < (x1.length : Int) then (if (rd x0 x5) = (rd x1 x5) then (bagnalllaw_sameBytes.l0 k x0 x1 (wrap64 (x5 + 1))) else (some false)) else (none)) else (none)) else (some true)
def bagnalllaw_sameBytes.f (k : Nat) (l0 : List Int) (l1 : List Int) : Option (Bool) := if (l0.length : Int) = (l1.length : Int) then (bagnalllaw_sameBytes.l0 k l0 l1 0) else (some false)
theorem bagnalllaw_sameBytes.mono_l : ∀ k, (∀ y0 y1 y2, LeO (bagnalllaw_sameBytes.l0 k y0 y1 y2) (bagnalllaw_sameBytes.l0 (k + 1) y0 y1 y2))
  | 0 => fun _ _ _ r h => by simp [bagnalllaw_sameBytes.l0] at h
  | k + 1 => by
    have ih0 := bagnalllaw_sameBytes.mono_l k
    · intro y0 y1 y2
      unfold bagnalllaw_sameBytes.l0
      repeat' first
      | (with_reducible exact ih0 _ _ _)
      | (with_reducible exact LeO.refl _)
      | (with_reducible exact LeO.none _)
      | (with_reducible refine LeO.ite ?_ ?_)
      | (with_reducible refine LeO.bind ?_ (fun _ => ?_))
      | exact ih0 _ _ _
      | exact LeO.none _
      | refine LeO.ite ?_ ?_
      | refine LeO.bind ?_ (fun _ => ?_)
theorem bagnalllaw_sameBytes.mono : ∀ a0 a1 k, LeO (bagnalllaw_sameBytes.f k a0 a1) (bagnalllaw_sameBytes.f (k + 1) a0 a1) := by
  intro a0 a1 k
  have ih0 := bagnalllaw_sameBytes.mono_l k
  unfold bagnalllaw_sameBytes.f
  repeat' first
      | (with_reducible exact ih0 _ _ _)
      | (with_reducible exact LeO.refl _)
      | (with_reducible exact LeO.none _)
      | (with_reducible refine LeO.ite ?_ ?_)
      | (with_reducible refine LeO.bind ?_ (fun _ => ?_))
      | exact ih0 _ _ _
      | exact LeO.none _
      | refine LeO.ite ?_ ?_
      | refine LeO.bind ?_ (fun _ => ?_)
set_option maxHeartbeats 8000000 in
set_option maxRecDepth 100000 in
theorem bagnalllaw_sameBytes.calls (k : Nat) (A0 : Option Addr) (c0 : Nat) (l0 : List Int) (A1 : Option Addr) (c1 : Nat) (l1 : List Int) (r : Bool) (w : World) (hr0 : Kd.C (Kd.int .u8) w A0 l0.length l0) (hc0 : l0.length ≤ c0) (hr1 : Kd.C (Kd.int .u8) w A1 l1.length l1) (hc1 : l1.length ≤ c1) (h : bagnalllaw_sameBytes.f k l0 l1 = some r) :
    Calls Try.prog 29 #[.slice A0 l0.length c0, .slice A1 l1.length c1] w fun e w' => e = .returned (.bool r) ∧ Drawn0 w w' := by
  have HR0 := Aside0.mk hr0
  have HC0 := Aside0.mk hc0
  clear hr0 hc0
  have HR1 := Aside0.mk hr1
  have HC1 := Aside0.mk hc1
  clear hr1 hc1
  have H : (if (l0.length : Int) = (l1.length : Int) then (bagnalllaw_sameBytes.l0 k l0 l1 0) else (some false)) = some r := h
  clear h
  by_cases c3 : (l0.length : Int) = (l1.length : Int)
  · rw [if_pos c3] at H
    have c3b0 : ((l0.length : Int) == (l1.length : Int)) = true := beq_iff_eq.mpr c3
    have c3b1 : ((l0.length : Int) != (l1.length : Int)) = false := bne_eq_false_iff_eq.mpr c3
    have c3b2 : (l0.length == l1.length) = true := by first | simpa using c3 | (simp at c3 ⊢; omega)
    clear c3
    have H' := Aside0.mk H
    clear H
    go_enter Try.func29, Try.ntmps29
    go_wp2
    repeat (go_quiet (fail); try go_wp2)
    go_loopg [5] k (fun kq v5 w' => ∃ (x5_1 : Int), v5 = .int .i64 x5_1 ∧ Aside0 (bagnalllaw_sameBytes.l0 kq l0 l1 x5_1 = some r) ∧ Aside0 (kq ≤ k) ∧ Drawn0 w w')
    case atStart => exact ⟨(0), (by first | rfl | (simp; done) | (simp [*]; done)), H', ⟨Nat.le_refl _⟩, by repeat (first | exact Drawn0.refl _ | apply Drawn0.step)⟩
    case round =>
      clear H'
      try clear c1
      try clear c2
      try clear p2
      try clear c3
      try clear c3b0
      try clear c3b1
      try clear c3b2
      obtain ⟨x5_1, rfl, HA, HK1, ⟨m1, rfl⟩⟩ := hrel
      cases gk with
      | zero => exact absurd HA.out (by simp [bagnalllaw_sameBytes.l0])
      | succ k1 =>
        have H := HA.out
        clear HA
        simp only [bagnalllaw_sameBytes.l0] at H
        by_cases c4 : x5_1 < (l0.length : Int)
        · rw [if_pos c4] at H
          have c4b0 : decide (x5_1 < (l0.length : Int)) = true := decide_eq_true c4
          clear c4
          by_cases c5 : 0 ≤ x5_1
          · rw [if_pos c5] at H
            have c5b0 : decide (0 ≤ x5_1) = true := decide_eq_true c5
            clear c5
            by_cases c6 : x5_1 < (l1.length : Int)
            · rw [if_pos c6] at H
              have c6b0 : decide (x5_1 < (l1.length : Int)) = true := decide_eq_true c6
              clear c6
              by_cases c7 : (rd l0 x5_1) = (rd l1 x5_1)
              · rw [if_pos c7] at H
                have c7b0 : ((rd l0 x5_1) == (rd l1 x5_1)) = true := beq_iff_eq.mpr c7
                have c7b1 : ((rd l0 x5_1) != (rd l1 x5_1)) = false := bne_eq_false_iff_eq.mpr c7
                clear c7
                have H' := Aside0.mk H
                clear H
                have p136 : 0 ≤ (x5_1 : Int) := of_decide_eq_true (by first | (with_reducible assumption) | assumption)
                have q136 : x5_1 < (l0.length : Int) := of_decide_eq_true (by first | (with_reducible assumption) | assumption)
                obtain ⟨ad136, e136, hx136_0⟩ := Kd.at_int HR0.out x5_1 p136 q136
                cases e136
                replace p136 := eq_true p136
                replace q136 := eq_true q136
                have p137 : 0 ≤ (x5_1 : Int) := of_decide_eq_true (by first | (with_reducible assumption) | assumption)
                have q137 : x5_1 < (l1.length : Int) := of_decide_eq_true (by first | (with_reducible assumption) | assumption)
                obtain ⟨ad137, e137, hx137_0⟩ := Kd.at_int HR1.out x5_1 p137 q137
                cases e137
                replace p137 := eq_true p137
                replace q137 := eq_true q137
                go_wp2
                repeat (go_quiet (fail); try go_wp2)
                go_roundg k1
                case measure => have := HK1.out; omega
                case rel => exact ⟨(wrap64 (x5_1 + 1)), (by first | rfl | (simp; done) | (simp [*]; done)), H', ⟨by have := HK1.out; omega⟩, by repeat (first | exact Drawn0.refl _ | apply Drawn0.step)⟩
              · rw [if_neg c7] at H
                have c7b0 : ((rd l0 x5_1) == (rd l1 x5_1)) = false := beq_eq_false_iff_ne.mpr c7
                have c7b1 : ((rd l0 x5_1) != (rd l1 x5_1)) = true := bne_iff_ne.mpr c7
                obtain rfl := Option.some.inj H
                have p136 : 0 ≤ (x5_1 : Int) := of_decide_eq_true (by first | (with_reducible assumption) | assumption)
                have q136 : x5_1 < (l0.length : Int) := of_decide_eq_true (by first | (with_reducible assumption) | assumption)
                obtain ⟨ad136, e136, hx136_0⟩ := Kd.at_int HR0.out x5_1 p136 q136
                cases e136
                replace p136 := eq_true p136
                replace q136 := eq_true q136
                have p137 : 0 ≤ (x5_1 : Int) := of_decide_eq_true (by first | (with_reducible assumption) | assumption)
                have q137 : x5_1 < (l1.length : Int) := of_decide_eq_true (by first | (with_reducible assumption) | assumption)
                obtain ⟨ad137, e137, hx137_0⟩ := Kd.at_int HR1.out x5_1 p137 q137
                cases e137
                replace p137 := eq_true p137
                replace q137 := eq_true q137
                go_wp2
                repeat (go_quiet (fail); try go_wp2)
                go_ret
                exact ⟨by first | rfl | (simp; done) | (simp [*]; done), by repeat (first | exact Drawn0.refl _ | apply Drawn0.step)⟩
            · rw [if_neg c6] at H
              exact absurd H (by simp)
          · rw [if_neg c5] at H
            exact absurd H (by simp)
        · rw [if_neg c4] at H
          have c4b0 : decide (x5_1 < (l0.length : Int)) = false := decide_eq_false c4
          clear c4
          obtain rfl := Option.some.inj H
          go_wp2
          repeat (go_quiet (fail); try go_wp2)
          go_ret
          exact ⟨by first | rfl | (simp; done) | (simp [*]; done), by repeat (first | exact Drawn0.refl _ | apply Drawn0.step)⟩
  · rw [if_neg c3] at H
    have c3b0 : ((l0.length : Int) == (l1.length : Int)) = false := beq_eq_false_iff_ne.mpr c3
    have c3b1 : ((l0.length : Int) != (l1.length : Int)) = true := bne_iff_ne.mpr c3
    have c3b2 : (l0.length == l1.length) = false := by first | simpa using c3 | (simp at c3 ⊢; omega)
    obtain rfl := Option.some.inj H
    go_enter Try.func29, Try.ntmps29
    go_wp2
    repeat (go_quiet (fail); try go_wp2)
    go_ret
    exact ⟨by first | rfl | (simp; done) | (simp [*]; done), by repeat (first | exact Drawn0.refl _ | apply Drawn0.step)⟩

/-- A state of type 90 at block g of W; what its slices lead to came in by w0. -/
def IsS90 (w0 W : World) (g : Nat) (f0 : List Int) (f1 : Int) : Prop := ∃ A0 c0, W.heap[g]? = some (.cells #[.slice A0 f0.length c0, .int .i64 f1] 90 (0, 0)) ∧ w0.heap.size ≤ g ∧ Kd.C (Kd.int .u8) w0 A0 f0.length f0
theorem IsS90.grown {w0 W : World} {g : Nat} {f0 : List Int} {f1 : Int} {W1 : World} {row : Option Nat} (h : IsS90 w0 W g f0 f1) (hw : W.grownBy W1 row) (hne : some g ≠ row) : IsS90 w0 W1 g f0 f1 := by
  obtain ⟨A0, c0, hb, hg, hr0⟩ := h
  exact ⟨A0, c0, blk_grown hb hw hne, hg, hr0⟩
theorem IsS90.own_neN {w0 W : World} {g : Nat} {f0 : List Int} {f1 : Int} {α : Type} {d : Kd α} {e : Nat} {base : Nat} {ok : Nat → Prop} {v : Value} {xs : List α} (h : IsS90 w0 W g f0 f1) (ho : Kd.N d e W base ok v xs) (ht : e ≠ 90) : some g ≠ v.ownBlock := by
  obtain ⟨A0, c0, hb, hg, hr0⟩ := h
  exact Kd.N_ne ho hb ht
theorem IsS90.fresh {w0 W : World} {g : Nat} {f0 : List Int} {f1 : Int} (h : IsS90 w0 W g f0 f1) : ∀ k, W.heap.size ≤ k → k ≠ g := by
  obtain ⟨A0, c0, hb, hg, hr0⟩ := h
  exact Kd.freshB hb
theorem IsS90.kept {w0 W : World} {g : Nat} {f0 : List Int} {f1 : Int} {W1 : World} {S : Nat → Prop} (h : IsS90 w0 W g f0 f1) (hk : Kept W W1 S) (hne : ¬ S g) : IsS90 w0 W1 g f0 f1 := by
  obtain ⟨A0, c0, hb, hg, hr0⟩ := h
  exact ⟨A0, c0, blk_kept hb hk hne, hg, hr0⟩
theorem IsS90.below {w0 W : World} {g : Nat} {f0 : List Int} {f1 : Int} {W1 : World} (h : IsS90 w0 W g f0 f1) (hw : Below W.heap.size W W1) : IsS90 w0 W1 g f0 f1 := h.grown (grown_of_below hw none) (by simp)
theorem IsS90.alloc {w0 W : World} {g : Nat} {f0 : List Int} {f1 : Int} (h : IsS90 w0 W g f0 f1) (o : Obj) : IsS90 w0 (W.alloc o) g f0 f1 := h.below (below_alloc (Below.refl _ _) o)
theorem IsS90.drewN {w0 W : World} {g : Nat} {f0 : List Int} {f1 : Int} (h : IsS90 w0 W g f0 f1) (m : Nat) : IsS90 w0 (W.drewN m) g f0 f1 := h
theorem IsS90.drew {w0 W : World} {g : Nat} {f0 : List Int} {f1 : Int} (h : IsS90 w0 W g f0 f1) : IsS90 w0 W.drew g f0 f1 := h
theorem IsS90.at_ {w0 W : World} {g : Nat} {f0 : List Int} {f1 : Int} {w' : World} {m : Nat} (hq : W.drewN m = w') (h : IsS90 w0 W g f0 f1) : IsS90 w0 w' g f0 f1 := by subst hq; exact IsS90.drewN h m
theorem IsS90.apart {w0 W : World} {g : Nat} {f0 : List Int} {f1 : Int} {α : Type} {d : Kd α} {e : Nat} {base : Nat} {ok : Nat → Prop} {v : Value} {xs : List α} (h : IsS90 w0 W g f0 f1) (ho : d.R e W base ok v xs) (ht : ∀ q, q ∈ e :: d.E → q ≠ 90) : d.R e W base (fun k => ok k ∧ k ≠ g) v xs := by
  obtain ⟨A0, c0, hb, hg, hr0⟩ := h
  exact Kd.R_types ho hb ht
theorem IsS90.own_ne {w0 W : World} {g : Nat} {f0 : List Int} {f1 : Int} {α : Type} {d : Kd α} {e : Nat} {base : Nat} {ok : Nat → Prop} {v : Value} {xs : List α} (h : IsS90 w0 W g f0 f1) (ho : d.R e W base ok v xs) (ht : e ≠ 90) : some g ≠ v.ownBlock := by
  obtain ⟨A0, c0, hb, hg, hr0⟩ := h
  exact Kd.R_ne ho hb ht
theorem IsS90.apartQ {w0 W : World} {g : Nat} {f0 : List Int} {f1 : Int} {α : Type} {d : Kd α} {e : Nat} {base : Nat} {ok : Nat → Prop} {v : Value} {xs : List α} (h : IsS90 w0 W g f0 f1) (ho : d.Q e W base ok v xs) (ht : ∀ q, q ∈ e :: d.E → q ≠ 90) : d.Q e W base (fun k => ok k ∧ k ≠ g) v xs := by
  obtain ⟨A0, c0, hb, hg, hr0⟩ := h
  exact Kd.Q_types ho hb ht
theorem IsS90.own_neQ {w0 W : World} {g : Nat} {f0 : List Int} {f1 : Int} {α : Type} {d : Kd α} {e : Nat} {base : Nat} {ok : Nat → Prop} {v : Value} {xs : List α} (h : IsS90 w0 W g f0 f1) (ho : d.Q e W base ok v xs) (ht : e ≠ 90) : some g ≠ v.ownBlock := by
  obtain ⟨A0, c0, hb, hg, hr0⟩ := h
  exact Kd.Q_ne ho hb ht
theorem IsS90.apartS {w0 W : World} {g : Nat} {f0 : List Int} {f1 : Int} {α : Type} {d : Kd α} {e : Nat} {base : Nat} {ok : Nat → Prop} {v : Value} {xs : List α} (h : IsS90 w0 W g f0 f1) (ho : d.S e W base ok v xs) (ht : ∀ q, q ∈ e :: d.E → q ≠ 90) : d.S e W base (fun k => ok k ∧ k ≠ g) v xs := by
  obtain ⟨A0, c0, hb, hg, hr0⟩ := h
  exact Kd.S_types ho hb ht
theorem IsS90.own_neS {w0 W : World} {g : Nat} {f0 : List Int} {f1 : Int} {α : Type} {d : Kd α} {e : Nat} {base : Nat} {ok : Nat → Prop} {v : Value} {xs : List α} (h : IsS90 w0 W g f0 f1) (ho : d.S e W base ok v xs) (ht : e ≠ 90) : some g ≠ v.ownBlock := by
  obtain ⟨A0, c0, hb, hg, hr0⟩ := h
  exact Kd.S_ne ho hb ht
theorem IsS90.lt {w0 W : World} {g : Nat} {f0 : List Int} {f1 : Int} (h : IsS90 w0 W g f0 f1) : g < W.heap.size := by
  obtain ⟨A0, c0, hb, hg, hr0⟩ := h
  exact blk_lt hb
theorem IsS90.ge {w0 W : World} {g : Nat} {f0 : List Int} {f1 : Int} (h : IsS90 w0 W g f0 f1) : w0.heap.size ≤ g := by
  obtain ⟨A0, c0, hb, hg, hr0⟩ := h
  exact hg
theorem IsS90.ne_blk {w0 W : World} {g : Nat} {f0 : List Int} {f1 : Int} {a : Nat} {cs : Array Value} {t : TypeId} {fr : Nat × Nat} (h : IsS90 w0 W g f0 f1) (hb2 : W.heap[a]? = some (.cells cs t fr)) (ht : t ≠ 90) : g ≠ a := by
  obtain ⟨A0, c0, hb, hg, hr0⟩ := h
  rintro rfl
  rw [hb] at hb2
  injection hb2 with hb2
  injection hb2 with _ ht2
  exact ht ht2.symm
theorem IsS90.far {w0 W : World} {g : Nat} {f0 : List Int} {f1 : Int} {p : Addr} (h : IsS90 w0 W g f0 f1) (hne : g ≠ p.block) (u : Value) : IsS90 w0 (W.setCell p u) g f0 f1 := by
  obtain ⟨A0, c0, hb, hg, hr0⟩ := h
  exact ⟨A0, c0, blk_far hb hne u, hg, hr0⟩
theorem cellS90_0 {W : World} {g : Nat} {A0 : Option Addr} {c0 : Nat} {f0 : List Int} {f1 : Int} (h : W.heap[g]? = some (.cells #[.slice A0 f0.length c0, .int .i64 f1] 90 (0, 0))) : W.cell? ⟨g, 0, none⟩ = some (.slice A0 f0.length c0) := (blk_cell h 0).trans rfl
theorem cellS90_1 {W : World} {g : Nat} {A0 : Option Addr} {c0 : Nat} {f0 : List Int} {f1 : Int} (h : W.heap[g]? = some (.cells #[.slice A0 f0.length c0, .int .i64 f1] 90 (0, 0))) : W.cell? ⟨g, 1, none⟩ = some (.int .i64 f1) := (blk_cell h 1).trans rfl
theorem IsS90.set_1 {w0 W : World} {g : Nat} {f0 : List Int} {f1 : Int} (h : IsS90 w0 W g f0 f1) (x : Int) : IsS90 w0 (W.setCell ⟨g, 1, none⟩ (.int .i64 x)) g f0 x := by
  obtain ⟨A0, c0, hb, hg, hr0⟩ := h
  exact ⟨A0, c0, by simpa using blk_set hb 1 (.int .i64 x), hg, hr0⟩
theorem IsS90.new (w0 W : World) (A0 : Option Addr) (c0 : Nat) (f0 : List Int) (f1 : Int) (hB : Below w0.heap.size w0 W) (hr0 : Kd.C (Kd.int .u8) w0 A0 f0.length f0) : IsS90 w0 (W.alloc (.cells #[.slice A0 f0.length c0, .int .i64 f1] 90)) W.heap.size f0 f1 := ⟨A0, c0, by simpa using heap_alloc_new W _, hB.size, hr0⟩

/-! ### disk_Disk_Sync: function 88 -/
def disk_Disk_Sync.f (s0_0 : List Int) (s0_1 : Int) : Option (Int) := some (s0_0.length : Int)
set_option maxHeartbeats 8000000 in
set_option maxRecDepth 100000 in
theorem disk_Disk_Sync.calls (g : Nat) (s0_0 : List Int) (s0_1 : Int) (r : Int) (w0 w : World) (hI : IsS90 w0 w g s0_0 s0_1) (hB : Below w0.heap.size w0 w) (h : disk_Disk_Sync.f s0_0 s0_1 = some r) :
    Calls Try.prog 88 #[.pointer (some ⟨g, 0, none⟩)] w fun e w' => e = .returned (.tuple #[]) ∧ IsS90 w0 w' g s0_0 r ∧ Below w0.heap.size w0 w' ∧ KeepBut w w' g none := by
  have HI0 := Aside0.mk hI
  have HK := Aside0.mk (KeepBut.refl w g none)
  have HL := Aside0.mk hB.size
  clear hI
  have HW0 := Aside0.mk hB.size
  have HB := Aside0.mk hB
  clear hB
  have H : (some (s0_0.length : Int)) = some r := h
  clear h
  obtain rfl := Option.some.inj H
  obtain ⟨ASz2_0, cSz2_0, HGz2, hgz2, HSz2_0⟩ := HI0.out
  have hcz2_0 := cellS90_0 HGz2
  have hcz2_1 := cellS90_1 HGz2
  have hfz2_1 := blk_frozen HGz2 1
  clear HGz2 hgz2
  go_enter Try.func88, Try.ntmps88
  go_wp2
  first | go_end0 | ((try simp only [Exit.inBlock, Exit.then]); refine bodyPost_ret (results_none rfl _ _ _) rfl ?_)
  exact ⟨by first | rfl | (simp [errW_none, errW_some] <;> rfl) | (simp [*, errW_none, errW_some] <;> rfl), by repeat (first | (with_reducible first | exact HI0.out | apply IsS90.alloc | apply IsS90.drewN | apply IsS90.drew | apply IsS90.set_1) | exact HI0.out), by repeat (first | (with_reducible first | exact HB.out | apply below_alloc | apply pw_below_drewN | apply below_drew1 | refine below_set ?_ (IsS90.ge HI0.out)) | exact HB.out), by repeat (first | (with_reducible first | exact HK.out | apply KeepBut.set_ | apply keep_drewN | apply keep_drew | apply keep_alloc) | exact HK.out)⟩

/-! ### wal_May: function 52 -/
def wal_May.f (l0 : List Int) : Option (Bool) := if (l0.length : Int) ≥ 1 then (some (decide ((l0.length : Int) ≤ 60))) else (some false)
set_option maxHeartbeats 8000000 in
set_option maxRecDepth 100000 in
theorem wal_May.calls (A0 : Option Addr) (c0 : Nat) (l0 : List Int) (r : Bool) (w : World) (hr0 : Kd.C (Kd.int .u8) w A0 l0.length l0) (hc0 : l0.length ≤ c0) (h : wal_May.f l0 = some r) :
    Calls Try.prog 52 #[.slice A0 l0.length c0] w fun e w' => e = .returned (.bool r) ∧ Drawn0 w w' := by
  have HR0 := Aside0.mk hr0
  have HC0 := Aside0.mk hc0
  clear hr0 hc0
  have H : (if (l0.length : Int) ≥ 1 then (some (decide ((l0.length : Int) ≤ 60))) else (some false)) = some r := h
  clear h
  by_cases c2 : (l0.length : Int) ≥ 1
  · rw [if_pos c2] at H
    have c2b0 : decide (1 ≤ (l0.length : Int)) = true := decide_eq_true c2
    have c2b1 : decide (1 ≤ l0.length) = true := decide_eq_true (by omega)
    clear c2
    obtain rfl := Option.some.inj H
    go_enter Try.func52, Try.ntmps52
    go_wp2
    go_ret
    exact ⟨by first | rfl | (simp; done) | (simp [*]; done), by repeat (first | exact Drawn0.refl _ | apply Drawn0.step)⟩
  · rw [if_neg c2] at H
    have c2b0 : decide (1 ≤ (l0.length : Int)) = false := decide_eq_false c2
    have c2b1 : decide (1 ≤ l0.length) = false := decide_eq_false (by omega)
    clear c2
    obtain rfl := Option.some.inj H
    go_enter Try.func52, Try.ntmps52
    go_wp2
    go_ret
    exact ⟨by first | rfl | (simp; done) | (simp [*]; done), by repeat (first | exact Drawn0.refl _ | apply Drawn0.step)⟩

/-! ### wal_Pack_1: function 51 -/
def wal_Pack_1.f (l0 : List Int) : Option (Bool) := (wal_May.f l0).bind fun t138 => (some (!t138))
set_option maxHeartbeats 8000000 in
set_option maxRecDepth 100000 in
theorem wal_Pack_1.calls (A0 : Option Addr) (c0 : Nat) (l0 : List Int) (r : Bool) (w : World) (hr0 : Kd.C (Kd.int .u8) w A0 l0.length l0) (hc0 : l0.length ≤ c0) (h : wal_Pack_1.f l0 = some r) :
    Calls Try.prog 51 #[.slice A0 l0.length c0] w fun e w' => e = .returned (.bool r) ∧ Drawn0 w w' := by
  have HR0 := Aside0.mk hr0
  have HC0 := Aside0.mk hc0
  clear hr0 hc0
  have H : ((wal_May.f l0).bind fun t138 => (some (!t138))) = some r := h
  clear h
  replace H := Option.bind_eq_some_iff.mp H
  obtain ⟨t138, A20, H⟩ := H
  replace H : (some (!t138)) = some r := H
  have A2 := Aside0.mk A20
  clear A20
  obtain rfl := Option.some.inj H
  go_enter Try.func51, Try.ntmps51
  go_wp2_with (first | ((with_reducible refine gate_callee (f := 52) rfl ?_); refine goesL_ (some 4) rfl rfl Try.func52 (by kernel_rfl) rfl #[.slice A0 l0.length c0] rfl (by (try simp only [List.map_toArray, List.map_cons, List.map_nil]); first | done | rfl | (simp only [List.length_drop, List.length_take]; rfl)) ?_; (with_reducible refine (wal_May.calls _ _ l0 t138 _ ?side1 ?side2 A2.out).mono ?_); (case side1 => repeat (first | exact HR0.out | (with_reducible refine Kd.C_alloc ?_ _) | (with_reducible refine Kd.C_drewN ?_ _) | (with_reducible refine Kd.C_drew ?_))); (case side2 => exact HC0.out); rintro e w' ⟨rfl, ⟨nd, rfl⟩⟩; refine ⟨_, rfl, ?_⟩))
  go_ret
  exact ⟨by first | rfl | (simp; done) | (simp [*]; done), by repeat (first | exact Drawn0.refl _ | apply Drawn0.step)⟩

/-! ### rows_Fault_1: function 68 -/
def rows_Fault_1.f (a0_0 : ByteArray) (a0_1 : ByteArray) : Option (Bool) := (rows_key.f a0_0).bind fun t140 => (if t140 = true then (some (decide ((a0_1.size : Int) > 20))) else (some true))
set_option maxHeartbeats 8000000 in
set_option maxRecDepth 100000 in
theorem rows_Fault_1.calls (a0_0 : ByteArray) (a0_1 : ByteArray) (r : Bool) (w : World) (h : rows_Fault_1.f a0_0 a0_1 = some r) :
    Calls Try.prog 68 #[.agg #[.string a0_0, .string a0_1]] w fun e w' => e = .returned (.bool r) ∧ Below w.heap.size w w' := by
  have hu69 := Try.underlying69
  have HB := Aside0.mk (Below.refl w.heap.size w)
  have H : ((rows_key.f a0_0).bind fun t140 => (if t140 = true then (some (decide ((a0_1.size : Int) > 20))) else (some true))) = some r := h
  clear h
  replace H := Option.bind_eq_some_iff.mp H
  obtain ⟨t140, A20, H⟩ := H
  replace H : (if t140 = true then (some (decide ((a0_1.size : Int) > 20))) else (some true)) = some r := H
  have A2 := Aside0.mk A20
  clear A20
  by_cases c3 : t140 = true
  · subst c3
    have H1 : (some (decide ((a0_1.size : Int) > 20))) = some r := by rw [if_pos rfl] at H; exact H
    clear H
    have H := H1
    clear H1
    obtain rfl := Option.some.inj H
    go_enter Try.func68, Try.ntmps68
    go_wp2_with (first | ((with_reducible refine gate_dst (N := 1) rfl ?_); (try (refine gate_guard (by rfl) ?_; dsimp only)); refine box_event ?hg (N := 1) ?hd (cs := #[.string a0_0, .string a0_1]) (t := 69) ?hr ?_; (case hd => rfl); (case hg => rfl); (case hr => first | (go_simp; done) | (go_simp; rfl)); intro gb139 hg w4 hbox hb; have n0_ := Aside0.mk (below_step (by repeat (first | (with_reducible first | exact HB.out | apply below_alloc | apply pw_below_drewN | apply below_drew1) | exact HB.out)) hb); have n1_ := Aside0.mk (hbox); have n2_ := Aside0.mk ((by rw [hg]; exact (below_size (by repeat (first | (with_reducible first | exact HB.out | apply below_alloc | apply pw_below_drewN | apply below_drew1) | exact HB.out))) : w.heap.size ≤ gb139)); have n3_ := Aside0.mk ((by rw [hg]; exact (below_size (by repeat (first | (with_reducible first | exact HB.out | apply below_alloc | apply pw_below_drewN | apply below_drew1) | exact HB.out))) : w.heap.size ≤ gb139)); clear HB; have HB := n0_; have BK139 := n1_; have GW139 := n2_; have GE139 := n3_; clear n0_ n1_ n2_ n3_; clear hb hbox hg; have hcz5_0 : w4.cell? ⟨gb139, 0, none⟩ = some (.string a0_0) := (blk_cell BK139.out 0).trans rfl; have hcz5_1 : w4.cell? ⟨gb139, 1, none⟩ = some (.string a0_1) := (blk_cell BK139.out 1).trans rfl; have hfz5_0 := blk_frozen BK139.out 0; have hfz5_1 := blk_frozen BK139.out 1) | ((with_reducible refine gate_callee (f := 44) rfl ?_); refine goesL_ (some 5) rfl rfl Try.func44 (by kernel_rfl) rfl #[.string a0_0] rfl (by (try simp only [List.map_toArray, List.map_cons, List.map_nil]); first | done | rfl | (simp only [List.length_drop, List.length_take]; rfl)) ?_; (with_reducible refine (rows_key.calls a0_0 true _ A2.out).mono ?_); rintro e w' ⟨rfl, ⟨nd, rfl⟩⟩; refine ⟨_, rfl, ?_⟩))
    go_ret
    exact ⟨by first | rfl | (simp [errW_none, errW_some] <;> rfl) | (simp [*, errW_none, errW_some] <;> rfl), by repeat (first | (with_reducible first | exact HB.out | apply below_alloc | apply pw_below_drewN | apply below_drew1 | refine below_set ?_ GE139.out) | exact HB.out)⟩
  · replace c3 := Bool.eq_false_iff.mpr c3
    subst c3
    have H1 : (some true) = some r := by rw [if_neg (show ¬ (false = true) by decide)] at H; exact H
    clear H
    have H := H1
    clear H1
    obtain rfl := Option.some.inj H
    go_enter Try.func68, Try.ntmps68
    go_wp2_with (first | ((with_reducible refine gate_dst (N := 1) rfl ?_); (try (refine gate_guard (by rfl) ?_; dsimp only)); refine box_event ?hg (N := 1) ?hd (cs := #[.string a0_0, .string a0_1]) (t := 69) ?hr ?_; (case hd => rfl); (case hg => rfl); (case hr => first | (go_simp; done) | (go_simp; rfl)); intro gb139 hg w6 hbox hb; have n0_ := Aside0.mk (below_step (by repeat (first | (with_reducible first | exact HB.out | apply below_alloc | apply pw_below_drewN | apply below_drew1) | exact HB.out)) hb); have n1_ := Aside0.mk (hbox); have n2_ := Aside0.mk ((by rw [hg]; exact (below_size (by repeat (first | (with_reducible first | exact HB.out | apply below_alloc | apply pw_below_drewN | apply below_drew1) | exact HB.out))) : w.heap.size ≤ gb139)); have n3_ := Aside0.mk ((by rw [hg]; exact (below_size (by repeat (first | (with_reducible first | exact HB.out | apply below_alloc | apply pw_below_drewN | apply below_drew1) | exact HB.out))) : w.heap.size ≤ gb139)); clear HB; have HB := n0_; have BK139 := n1_; have GW139 := n2_; have GE139 := n3_; clear n0_ n1_ n2_ n3_; clear hb hbox hg; have hcz7_0 : w6.cell? ⟨gb139, 0, none⟩ = some (.string a0_0) := (blk_cell BK139.out 0).trans rfl; have hcz7_1 : w6.cell? ⟨gb139, 1, none⟩ = some (.string a0_1) := (blk_cell BK139.out 1).trans rfl; have hfz7_0 := blk_frozen BK139.out 0; have hfz7_1 := blk_frozen BK139.out 1) | ((with_reducible refine gate_callee (f := 44) rfl ?_); refine goesL_ (some 5) rfl rfl Try.func44 (by kernel_rfl) rfl #[.string a0_0] rfl (by (try simp only [List.map_toArray, List.map_cons, List.map_nil]); first | done | rfl | (simp only [List.length_drop, List.length_take]; rfl)) ?_; (with_reducible refine (rows_key.calls a0_0 false _ A2.out).mono ?_); rintro e w' ⟨rfl, ⟨nd, rfl⟩⟩; refine ⟨_, rfl, ?_⟩))
    go_ret
    exact ⟨by first | rfl | (simp [errW_none, errW_some] <;> rfl) | (simp [*, errW_none, errW_some] <;> rfl), by repeat (first | (with_reducible first | exact HB.out | apply below_alloc | apply pw_below_drewN | apply below_drew1 | refine below_set ?_ GE139.out) | exact HB.out)⟩

end Go.Proofs.Ytnjidfgjldkkcaa.Q
/- wal.Of, slices.ContainsFunc at batches, wal.Pack, walked. -/
namespace Go.Proofs.Ytnjidfgjldkkcaa.Q
open Go.RowKit Go.Proofs.YtnjidfgjldkkcaaW.PrintWords Go.Proofs.YtnjidfgjldkkcaaW.PrintLast Go.Proofs.YtnjidfgjldkkcaaW.PrintMore
def packF : List (List Int) → List Int
  | [] => []
  | r :: t => frameF r t.isEmpty ++ packF t
theorem rdL1_at {l : List (List Int)} {i : Nat} (h : i < l.length) : rd_L4 l (i : Int) = l[i] := by
  simp [rd_L4, List.getD_eq_getElem?_getD, List.getElem?_eq_getElem h]
theorem packF_drop (l : List (List Int)) (i : Nat) (h : i < l.length) : packF (l.drop i) = frameF (rd_L4 l (i : Int)) ((i : Int) == (l.length : Int) - 1) ++ packF (l.drop (i + 1)) := by
  rw [List.drop_eq_getElem_cons h, rdL1_at h]
  show frameF l[i] (List.drop (i + 1) l).isEmpty ++ packF (List.drop (i + 1) l) = _
  congr 2
  rw [Bool.eq_iff_iff, List.isEmpty_iff_length_eq_zero, List.length_drop, beq_iff_eq]
  omega
theorem frameF_length (r : List Int) (b : Bool) : (frameF r b).length = r.length + 4 := by
  unfold frameF frameB; simp
set_option maxRecDepth 100000 in
set_option maxHeartbeats 4000000 in
theorem of_walk (A : Option Addr) (c : Nat) (l : List (List Int)) (w : World) (hr : Kd.C (Kd.slice 5 (Kd.int .u8)) w A l.length l) (hc : l.length ≤ c) (hl : l.length ≤ 100000) (hl2 : ∀ r ∈ l, r.length ≤ 100) :
    Calls Try.prog 54 #[.slice A l.length c] w fun e w' => ∃ v1, e = .returned v1 ∧ Kd.R (Kd.int .u8) 5 w' w.heap.size (fun _ => True) v1 (packF l) ∧ Below w.heap.size w w' := by
  have HR := Aside0.mk hr
  have HC := Aside0.mk hc
  have HL2 := Aside0.mk hl2
  clear hr hc hl2
  go_enter Try.func54, Try.ntmps54
  go_wp2
  go_loopw [3, 8] (fun v vi wr => ∃ (i : Nat) (out : List Int), vi = .int .i64 i ∧ Aside0 (i ≤ l.length) ∧ Aside0 (out ++ packF (l.drop i) = packF l) ∧ Aside0 (out.length ≤ i * 104) ∧ Aside0 (Kd.R (Kd.int .u8) 5 wr w.heap.size (fun _ => True) v out) ∧ Aside0 (Below w.heap.size w wr)) (fun _ vi _ => l.length - (intOf vi).toNat)
  case atStart => exact ⟨0, [], rfl, ⟨Nat.zero_le _⟩, ⟨rfl⟩, ⟨by simp⟩, ⟨Kd.R_nil _ _ _ _ _⟩, ⟨Below.refl _ _⟩⟩
  case round =>
    obtain ⟨i, out, rfl, hi, hs, hol, HO, HB⟩ := hrel
    have hi' := hi.out
    by_cases hlt : i < l.length
    · obtain ⟨ad, A0, c0, rfl, hx, hc0, hC0⟩ := at_L4 HR.out (i : Int) (by omega) (by omega)
      have hx' := (HB.out.cell (World.block_lt_of_cell? w _ hx)).trans hx
      have hst := Aside0.mk ((congrArg (out ++ ·) (packF_drop l i hlt).symm).trans hs.out)
      have hrl : Aside0 ((rd_L4 l (i : Int)).length ≤ 100) := ⟨by rw [rdL1_at hlt]; exact HL2.out _ (List.getElem_mem hlt)⟩
      clear hx hs
      generalize rd_L4 l (i : Int) = r at *
      simp only [Int.toNat_natCast] at hx'
      go_wp2_with (go_at_call 73; refine (frame_walk w _ out A0 c0 r ((i : Int) == (l.length : Int) - 1) wr HO.out HB.out hC0 hc0 (by have := hol.out; have := hrl.out; omega)).mono ?_; rintro e w1 ⟨v1, rfl, ho, hb⟩; have HO1 := Aside0.mk ho; have HB1 := Aside0.mk hb; clear ho hb)
      go_roundw
      case rel => exact ⟨i + 1, _, by go_num, ⟨by omega⟩, ⟨by rw [List.append_assoc]; exact hst.out⟩, ⟨by have := hol.out; have := hrl.out; rw [List.length_append, frameF_length]; omega⟩, HO1, HB1⟩
      case measure => simp [intOf]; omega
    · go_wp2
      go_ret
      have e := hs.out
      rw [List.drop_of_length_le (by omega)] at e
      rw [← e, packF, List.append_nil]
      exact ⟨_, rfl, HO.out, HB.out⟩

/-- The place of the first that p picks; -1: none. -/
def idxF {α : Type} (p : α → Bool) : List α → Int → Int
  | [], _ => -1
  | r :: t, i => if p r = true then i else idxF p t (i + 1)
theorem idxF_any {α : Type} (p : α → Bool) : ∀ (l : List α) (i : Int), 0 ≤ i → (decide (0 ≤ idxF p l i) = l.any p)
  | [], _, _ => by simp [idxF]
  | r :: t, i, h => by
    have ih := idxF_any p t (i + 1) (by omega)
    unfold idxF
    by_cases hp : p r = true
    · simp [hp, h]
    · simp [hp, ih]
def oddF (r : List Int) : Bool := !(decide (1 ≤ r.length) && decide (r.length ≤ 60))
theorem oddF_f (r : List Int) : wal_Pack_1.f r = some (oddF r) := by
  unfold wal_Pack_1.f wal_May.f oddF
  by_cases h : (r.length : Int) ≥ 1
  · rw [if_pos h, Option.bind_some]
    have h1 : 1 ≤ r.length := by omega
    by_cases h2 : r.length ≤ 60
    · have : (r.length : Int) ≤ 60 := by omega
      simp [h1, h2, this]
    · have : ¬ (r.length : Int) ≤ 60 := by omega
      simp [h1, h2, this]
  · rw [if_neg h, Option.bind_some]
    have h1 : ¬ 1 ≤ r.length := by omega
    simp [h1]
set_option maxRecDepth 100000 in
set_option maxHeartbeats 4000000 in
theorem indexB_walk (A : Option Addr) (c : Nat) (l : List (List Int)) (w : World) (hr : Kd.C (Kd.slice 5 (Kd.int .u8)) w A l.length l) (hc : l.length ≤ c) :
    Calls Try.prog 72 #[.slice A l.length c, .func (Fn.func 51) #[] #[]] w fun e w' => e = .returned (.int .i64 (idxF oddF l 0)) ∧ Below w.heap.size w w' := by
  have HR := Aside0.mk hr
  have HC := Aside0.mk hc
  have HM := Aside0.mk (Kd.C_max hr)
  clear hr hc
  go_enter Try.func72, Try.ntmps72
  go_wp2
  go_loopw [8] (fun vi wr => ∃ (i : Nat), vi = .int .i64 i ∧ Aside0 (i ≤ l.length) ∧ Aside0 (idxF oddF (l.drop i) i = idxF oddF l 0) ∧ Aside0 (Below w.heap.size w wr)) (fun vi _ => l.length - (intOf vi).toNat)
  case atStart => exact ⟨0, rfl, ⟨Nat.zero_le _⟩, ⟨rfl⟩, ⟨Below.refl _ _⟩⟩
  case round =>
    obtain ⟨i, rfl, hi, hs, HB⟩ := hrel
    have hi' := hi.out
    have hm' := HM.out
    by_cases hlt : i < l.length
    · obtain ⟨ad, A0, c0, rfl, hx, hc0, hC0⟩ := at_L4 (Kd.C_below HR.out HB.out) (i : Int) (by omega) (by omega)
      have hst : Aside0 ((if oddF (rd_L4 l (i : Int)) = true then (i : Int) else idxF oddF (l.drop (i + 1)) ((i : Int) + 1)) = idxF oddF l 0) := ⟨by
        have := hs.out
        rw [List.drop_eq_getElem_cons hlt] at this
        rw [rdL1_at hlt]
        exact this⟩
      clear hs
      generalize rd_L4 l (i : Int) = r at *
      simp only [Int.toNat_natCast] at hx
      have hC0' := Aside0.mk hC0
      have hc0' := Aside0.mk hc0
      clear hC0 hc0
      go_wp2_with (go_at_call 51; refine (wal_Pack_1.calls A0 c0 r (oddF r) _ hC0'.out hc0'.out (oddF_f r)).mono ?_; rintro e w1 ⟨rfl, hb⟩)
      · have HB1 := Aside0.mk (below_step HB.out hb.below)
        have hodd : oddF r = true := by assumption
        go_ret
        have e := hst.out
        rw [if_pos hodd] at e
        rw [← e]
        exact ⟨rfl, HB1.out⟩
      · have HB1 := Aside0.mk (below_step HB.out hb.below)
        have hodd : oddF r = false := by assumption
        have e : Aside0 (idxF oddF (l.drop (i + 1)) ((i : Int) + 1) = idxF oddF l 0) := ⟨by have := hst.out; rw [if_neg (by rw [hodd]; simp)] at this; exact this⟩
        go_roundw
        case rel => exact ⟨i + 1, by go_num, ⟨by omega⟩, e, HB1⟩
        case measure => simp [intOf]; omega
    · go_wp2
      go_ret
      have e := hs.out
      rw [List.drop_of_length_le (by omega)] at e
      rw [← e]
      exact ⟨rfl, HB.out⟩
set_option maxRecDepth 100000 in
set_option maxHeartbeats 4000000 in
theorem containsB_walk (A : Option Addr) (c : Nat) (l : List (List Int)) (w : World) (hr : Kd.C (Kd.slice 5 (Kd.int .u8)) w A l.length l) (hc : l.length ≤ c) :
    Calls Try.prog 53 #[.slice A l.length c, .func (Fn.func 51) #[] #[]] w fun e w' => e = .returned (.bool (l.any oddF)) ∧ Below w.heap.size w w' := by
  go_enter Try.func53, Try.ntmps53
  go_wp2_with (go_at_call 72; refine (indexB_walk A c l _ hr hc).mono ?_; rintro e w1 ⟨rfl, hb⟩)
  go_ret
  rw [← idxF_any oddF l 0 (Int.le_refl 0)]
  exact ⟨rfl, hb⟩
def packOdd (l : List (List Int)) : Bool := decide (l.length < 1) || decide (60 < l.length) || l.any oddF
def wal_Pack.f (l : List (List Int)) : Option (List Int × Int) := some (if packOdd l = true then ([], 1) else (packF l, 0))
set_option maxRecDepth 100000 in
set_option maxHeartbeats 4000000 in
theorem wal_Pack.calls (A0 : Option Addr) (c0 : Nat) (l0 : List (List Int)) (r1 : List Int) (r2 : Int) (w : World) (hr0 : Kd.C (Kd.slice 5 (Kd.int .u8)) w A0 l0.length l0) (hc0 : l0.length ≤ c0) (h : wal_Pack.f l0 = some (r1, r2)) :
    Calls Try.prog 27 #[.slice A0 l0.length c0] w fun e w' => ∃ v0_ : Value, e = .returned (.tuple #[v0_, .int .i64 r2]) ∧ Kd.R (Kd.int .u8) 5 w' w.heap.size (fun _ => True) v0_ r1 ∧ Below w.heap.size w w' := by
  replace h := Option.some.inj h
  have HR := Aside0.mk hr0
  have HC := Aside0.mk hc0
  clear hr0 hc0
  go_enter Try.func27, Try.ntmps27
  by_cases h1 : l0.length < 1
  · have ho : packOdd l0 = true := by unfold packOdd; rw [decide_eq_true h1]; rfl
    rw [if_pos ho] at h
    obtain ⟨rfl, rfl⟩ := Prod.mk.inj h
    clear h
    go_wp2
    go_ret2
    exact ⟨_, rfl, Kd.R_nil _ _ _ _ _, Below.refl _ _⟩
  by_cases h2 : 60 < l0.length
  · have ho : packOdd l0 = true := by unfold packOdd; rw [decide_eq_true h2]; simp
    rw [if_pos ho] at h
    obtain ⟨rfl, rfl⟩ := Prod.mk.inj h
    clear h
    go_wp2
    go_ret2
    exact ⟨_, rfl, Kd.R_nil _ _ _ _ _, Below.refl _ _⟩
  have hp : packOdd l0 = l0.any oddF := by unfold packOdd; rw [decide_eq_false h1, decide_eq_false h2]; simp
  rw [hp] at h
  by_cases h3 : l0.any oddF = true
  · rw [if_pos h3] at h
    obtain ⟨rfl, rfl⟩ := Prod.mk.inj h
    clear h
    go_wp2_with (go_at_call 53; refine (containsB_walk A0 c0 l0 _ HR.out HC.out).mono ?_; rintro e w1 ⟨rfl, hb⟩; rw [h3])
    go_ret2
    exact ⟨_, rfl, Kd.R_nil _ _ _ _ _, hb⟩
  · rw [if_neg h3] at h
    obtain ⟨rfl, rfl⟩ := Prod.mk.inj h
    clear h
    replace h3 : l0.any oddF = false := Bool.eq_false_iff.2 h3
    have hsz : Aside0 (∀ r ∈ l0, r.length ≤ 100) := ⟨fun r hr => by
      have := List.any_eq_false.1 h3 r hr
      unfold oddF at this
      simp at this
      omega⟩
    go_wp2_with (first | (go_at_call 53; refine (containsB_walk A0 c0 l0 _ HR.out HC.out).mono ?_; rintro e w1 ⟨rfl, hb⟩; rw [h3]; have HB := Aside0.mk hb; clear hb) | (go_at_call 54; refine (of_walk A0 c0 l0 _ (Kd.C_below HR.out HB.out) HC.out (by omega) hsz.out).mono ?_; rintro e w2 ⟨v1, rfl, ho, hb⟩; have HO := Aside0.mk (Kd.R_lower ho HB.out.size); have HB2 := Aside0.mk (below_step HB.out hb); clear ho hb))
    go_ret2
    exact ⟨_, rfl, HO.out, HB2.out⟩
end Go.Proofs.Ytnjidfgjldkkcaa.Q
/- Words on 'Ev' and on whole numbers that wrap: for the plain laws of this seat. No program. -/
namespace Go.Proofs.Ytnjidfgjldkkcaa.Plain
open Go.RowKit Go.Proofs.YtnjidfgjldkkcaaW.PrintWords
theorem Ev.pos {α : Type} {c : Prop} [Decidable c] {g f : Nat → Option α} {r : α} (hc : c) (h : Ev g r) : Ev (fun k => if c then g k else f k) r :=
  h.congr fun _ => if_pos hc
theorem Ev.neg {α : Type} {c : Prop} [Decidable c] {g f : Nat → Option α} {r : α} (hc : ¬ c) (h : Ev f r) : Ev (fun k => if c then g k else f k) r :=
  h.congr fun _ => if_neg hc
theorem Ev.to {α : Type} {g : Nat → Option α} {r q : α} (h : Ev g r) (e : r = q) : Ev g q := e ▸ h
theorem Ev.lift {α : Type} {o : Option α} {r : α} (h : o = some r) : Ev (fun _ => o) r := ⟨0, fun _ _ => h⟩
theorem wrap_in {n : Int} (h0 : -9223372036854775808 ≤ n) (h1 : n ≤ 9223372036854775807) : wrap64 n = n := by unfold wrap64; omega
theorem wrap_cast {n : Nat} (h1 : n ≤ 9223372036854775807) : wrap64 (n : Int) = n := wrap_in (by omega) (by omega)
theorem wrap_succ {i : Nat} (h1 : i < 9223372036854775807) : wrap64 ((i : Int) + 1) = ((i + 1 : Nat) : Int) := by rw [wrap_in (by omega) (by omega)]; rfl
theorem tmod_cast (a b : Nat) : Int.tmod (a : Int) (b : Int) = ((a % b : Nat) : Int) := by
  rw [Int.tmod_eq_emod_of_nonneg (by omega)]; exact (Int.natCast_emod a b).symm
theorem tdiv_cast (a b : Nat) : Int.tdiv (a : Int) (b : Int) = ((a / b : Nat) : Int) := by
  rw [Int.tdiv_eq_ediv_of_nonneg (by omega)]; exact (Int.natCast_ediv a b).symm
theorem getD_at {α : Type} {l : List α} {z : α} {i : Nat} (h : i < l.length) : l.getD ((i : Int).toNat) z = l[i] := by
  rw [Int.toNat_natCast, List.getD_eq_getElem?_getD, List.getElem?_eq_getElem h]; rfl
theorem rd_at {l : List Int} {i : Nat} (h : i < l.length) : rd l (i : Int) = l[i] := getD_at h
theorem empty_iff {s : ByteArray} : s.toList = [] ↔ s.size = 0 := by
  rw [Go.ByteArray.toList_eq, List.eq_nil_iff_length_eq_zero, Array.length_toList]; rfl
end Go.Proofs.Ytnjidfgjldkkcaa.Plain
/- Plain laws of package rows: what Check and its reference answer of a table. -/
namespace Go.Proofs.Ytnjidfgjldkkcaa.Plain
open Go.RowKit Go.Proofs.Ytnjidfgjldkkcaa.Q Go.Proofs.YtnjidfgjldkkcaaW.PrintWords

/-- The fault of the rows behind a row with the key p. -/
def faultFrom : Option ByteArray → List S69 → Int
  | _, [] => 0
  | p, r :: t => if r.f0.size < 1 ∨ 20 < r.f0.size ∨ 20 < r.f1.size then 1 else if r.f1.size = 0 then 4 else
      if (match p with | none => true | some q => Op.bytesLess q.toList r.f0.toList) = true then faultFrom (some r.f0) t else 7
/-- The fault of a table. -/
def rowsErr (l : List S69) : Int := if 40 < l.length then 1 else faultFrom none l
def prevOf (l : List S69) (i : Nat) : Option ByteArray := if i = 0 then none else (l[i - 1]?).map (·.f0)

theorem rd69 {l : List S69} {i : Nat} (h : i < l.length) : rd_T69 l (i : Int) = l[i] := getD_at h

theorem key_f (a : ByteArray) : rows_key.f a = some (decide (¬ (a.size < 1 ∨ 20 < a.size))) := by
  unfold rows_key.f
  by_cases h : a.size = 0
  · rw [if_pos (empty_iff.2 h), decide_eq_false (by omega)]
  · rw [if_neg (fun e => h (empty_iff.1 e))]
    congr 1
    by_cases h2 : (a.size : Int) ≤ 20
    · rw [decide_eq_true h2, decide_eq_true (by omega)]
    · rw [decide_eq_false h2, decide_eq_false (by omega)]

theorem check_tail (l : List S69) (i : Nat) (hi : i < l.length) (b : Bool) (hb : b = decide (l[i].f0.size < 1 ∨ 20 < l[i].f0.size ∨ 20 < l[i].f1.size)) (hl : l.length ≤ 40)
    (ih : Ev (fun k => rows_Check.l0 k l l (l.length : Int) ((i + 1 : Nat) : Int)) (faultFrom (some l[i].f0) (l.drop (i + 1)))) :
    Ev (fun k => rows_Check.j1 k l (i : Int) l (l.length : Int) (i : Int) b l[i].f0 l[i].f1) (faultFrom (prevOf l i) (l.drop i)) := by
  rw [List.drop_eq_getElem_cons hi]
  unfold faultFrom
  refine Ev.step (fun k => rfl) ?_
  by_cases h : l[i].f0.size < 1 ∨ 20 < l[i].f0.size ∨ 20 < l[i].f1.size
  · rw [if_pos h]
    exact Ev.pos (by rw [hb, decide_eq_true h]) (Ev.now _)
  rw [if_neg h]
  refine Ev.neg (by rw [hb, decide_eq_false h]; simp) ?_
  by_cases h4 : l[i].f1.size = 0
  · rw [if_pos h4]
    exact Ev.pos (empty_iff.2 h4) (Ev.now _)
  rw [if_neg h4]
  refine Ev.neg (fun e => h4 (empty_iff.1 e)) ?_
  have e2 : wrap64 ((i : Int) + 1) = ((i + 1 : Nat) : Int) := wrap_succ (by omega)
  by_cases h0 : i = 0
  · subst h0
    refine Ev.neg (by omega) ?_
    rw [e2]
    simpa [prevOf] using ih
  · have e1 : wrap64 ((i : Int) - 1) = ((i - 1 : Nat) : Int) := by rw [wrap_in (by omega) (by omega)]; omega
    have hp : prevOf l i = some l[i - 1].f0 := by unfold prevOf; rw [if_neg h0, List.getElem?_eq_getElem (by omega)]; rfl
    rw [hp, e1, rd69 (by omega : i - 1 < l.length), e2]
    refine Ev.pos (by omega) (Ev.pos (by omega) (Ev.pos (by omega) ?_))
    by_cases hb7 : Op.bytesLess l[i - 1].f0.toList l[i].f0.toList = true
    · rw [if_pos hb7]
      exact Ev.pos hb7 ih
    · rw [if_neg hb7]
      exact Ev.neg hb7 (Ev.now _)

theorem check_l0 (l : List S69) (hl : l.length ≤ 40) : ∀ (d i : Nat), i + d = l.length → Ev (fun k => rows_Check.l0 k l l (l.length : Int) (i : Int)) (faultFrom (prevOf l i) (l.drop i))
  | 0, i, hi => by
    rw [List.drop_of_length_le (by omega)]
    exact Ev.step (fun k => rfl) (Ev.neg (by omega) (Ev.now _))
  | d + 1, i, hi => by
    have hlt : i < l.length := by omega
    have ih := check_l0 l hl d (i + 1) (by omega)
    have hp : prevOf l (i + 1) = some l[i].f0 := by unfold prevOf; rw [if_neg (by omega), Nat.add_sub_cancel, List.getElem?_eq_getElem hlt]; rfl
    rw [hp] at ih
    refine Ev.step (fun k => rfl) (Ev.pos (by omega) (Ev.pos (by omega) (Ev.pos (by omega) ?_)))
    rw [rd69 hlt]
    refine Ev.bind (Ev.lift (key_f _)) ?_
    by_cases h : l[i].f0.size < 1 ∨ 20 < l[i].f0.size
    · rw [decide_eq_false (fun hn => hn h)]
      exact Ev.neg (by simp) (check_tail l i hlt true (by rw [decide_eq_true (by omega)]) hl ih)
    · rw [decide_eq_true h]
      refine Ev.pos rfl (check_tail l i hlt _ ?_ hl ih)
      by_cases h2 : 20 < l[i].f1.size
      · rw [decide_eq_true (by omega), decide_eq_true (by omega)]
      · rw [decide_eq_false (by omega), decide_eq_false (by omega)]
theorem check_ev (l : List S69) : Ev (fun k => rows_Check.f k l) (rowsErr l) := by
  unfold rows_Check.f rowsErr
  by_cases h : 40 < l.length
  · rw [if_pos h]; exact Ev.pos (by omega) (Ev.now _)
  · rw [if_neg h]
    exact Ev.neg (by omega) (check_l0 l (by omega) l.length 0 (by omega))

theorem fault_tail (l : List S69) (i : Nat) (hi : i < l.length) (b : Bool) (hb : b = decide (l[i].f0.size < 1 ∨ 20 < l[i].f0.size ∨ 20 < l[i].f1.size)) (hl : l.length ≤ 40)
    (ih : Ev (fun k => bagnallref_RowsFault.l0 k l l (l.length : Int) ((i + 1 : Nat) : Int)) (faultFrom (some l[i].f0) (l.drop (i + 1)))) :
    Ev (fun k => bagnallref_RowsFault.j1 k l (i : Int) l (l.length : Int) (i : Int) b l[i].f0 l[i].f1) (faultFrom (prevOf l i) (l.drop i)) := by
  rw [List.drop_eq_getElem_cons hi]
  unfold faultFrom
  refine Ev.step (fun k => rfl) ?_
  by_cases h : l[i].f0.size < 1 ∨ 20 < l[i].f0.size ∨ 20 < l[i].f1.size
  · rw [if_pos h]
    exact Ev.pos (by rw [hb, decide_eq_true h]) (Ev.now _)
  rw [if_neg h]
  refine Ev.neg (by rw [hb, decide_eq_false h]; simp) ?_
  by_cases h4 : l[i].f1.size = 0
  · rw [if_pos h4]
    exact Ev.pos (by omega) (Ev.now _)
  rw [if_neg h4]
  refine Ev.neg (by omega) ?_
  have e2 : wrap64 ((i : Int) + 1) = ((i + 1 : Nat) : Int) := wrap_succ (by omega)
  by_cases h0 : i = 0
  · subst h0
    refine Ev.neg (by omega) ?_
    rw [e2]
    simpa [prevOf] using ih
  · have e1 : wrap64 ((i : Int) - 1) = ((i - 1 : Nat) : Int) := by rw [wrap_in (by omega) (by omega)]; omega
    have hp : prevOf l i = some l[i - 1].f0 := by unfold prevOf; rw [if_neg h0, List.getElem?_eq_getElem (by omega)]; rfl
    rw [hp, e1, rd69 (by omega : i - 1 < l.length), e2]
    refine Ev.pos (by omega) (Ev.pos (by omega) (Ev.pos (by omega) ?_))
    by_cases hb7 : Op.bytesLess l[i - 1].f0.toList l[i].f0.toList = true
    · rw [if_pos hb7]
      exact Ev.pos hb7 ih
    · rw [if_neg hb7]
      exact Ev.neg hb7 (Ev.now _)
theorem fault_l0 (l : List S69) (hl : l.length ≤ 40) : ∀ (d i : Nat), i + d = l.length → Ev (fun k => bagnallref_RowsFault.l0 k l l (l.length : Int) (i : Int)) (faultFrom (prevOf l i) (l.drop i))
  | 0, i, hi => by
    rw [List.drop_of_length_le (by omega)]
    exact Ev.step (fun k => rfl) (Ev.neg (by omega) (Ev.now _))
  | d + 1, i, hi => by
    have hlt : i < l.length := by omega
    have ih := fault_l0 l hl d (i + 1) (by omega)
    have hp : prevOf l (i + 1) = some l[i].f0 := by unfold prevOf; rw [if_neg (by omega), Nat.add_sub_cancel, List.getElem?_eq_getElem hlt]; rfl
    rw [hp] at ih
    refine Ev.step (fun k => rfl) (Ev.pos (by omega) (Ev.pos (by omega) (Ev.pos (by omega) ?_)))
    rw [rd69 hlt]
    by_cases h : l[i].f0.size < 1
    · exact Ev.pos (by omega) (fault_tail l i hlt true (by rw [decide_eq_true (by omega)]) hl ih)
    refine Ev.neg (by omega) ?_
    by_cases h2 : 20 < l[i].f0.size
    · exact Ev.pos (by omega) (fault_tail l i hlt true (by rw [decide_eq_true (by omega)]) hl ih)
    refine Ev.neg (by omega) (fault_tail l i hlt _ ?_ hl ih)
    by_cases h3 : 20 < l[i].f1.size
    · rw [decide_eq_true (by omega), decide_eq_true (by omega)]
    · rw [decide_eq_false (by omega), decide_eq_false (by omega)]
theorem fault_ev (l : List S69) : Ev (fun k => bagnallref_RowsFault.f k l) (rowsErr l) := by
  unfold bagnallref_RowsFault.f rowsErr
  by_cases h : 40 < l.length
  · rw [if_pos h]; exact Ev.pos (by omega) (Ev.now _)
  · rw [if_neg h]
    exact Ev.neg (by omega) (fault_l0 l (by omega) l.length 0 (by omega))
end Go.Proofs.Ytnjidfgjldkkcaa.Plain
/- slices.ContainsFunc at rows, rows.Fault, rows.Set, walked. -/
namespace Go.Proofs.Ytnjidfgjldkkcaa.Q
open Go.RowKit Go.Proofs.YtnjidfgjldkkcaaW.PrintWords Go.Proofs.YtnjidfgjldkkcaaW.PrintLast Go.Proofs.YtnjidfgjldkkcaaW.PrintMore Go.Proofs.Ytnjidfgjldkkcaa.Plain
def oddR (r : S69) : Bool := decide (r.f0.size < 1 ∨ 20 < r.f0.size ∨ 20 < r.f1.size)
theorem oddR_f (r : S69) : rows_Fault_1.f r.f0 r.f1 = some (oddR r) := by
  unfold rows_Fault_1.f oddR
  rw [key_f, Option.bind_some]
  by_cases h : r.f0.size < 1 ∨ 20 < r.f0.size
  · rw [if_neg (by rw [decide_eq_false (fun hn => hn h)]; simp), decide_eq_true (show r.f0.size < 1 ∨ 20 < r.f0.size ∨ 20 < r.f1.size by omega)]
  · rw [if_pos (decide_eq_true h)]
    congr 1
    by_cases h2 : 20 < r.f1.size
    · rw [decide_eq_true (by omega), decide_eq_true (by omega)]
    · rw [decide_eq_false (by omega), decide_eq_false (by omega)]
set_option maxRecDepth 100000 in
set_option maxHeartbeats 4000000 in
theorem indexR_walk (A : Option Addr) (c : Nat) (l : List S69) (w : World) (hr : Kd.C k69 w A l.length l) (hc : l.length ≤ c) :
    Calls Try.prog 83 #[.slice A l.length c, .func (Fn.func 68) #[] #[]] w fun e w' => e = .returned (.int .i64 (idxF oddR l 0)) ∧ Below w.heap.size w w' := by
  have HR := Aside0.mk hr
  have HC := Aside0.mk hc
  have HM := Aside0.mk (Kd.C_max hr)
  clear hr hc
  go_enter Try.func83, Try.ntmps83
  go_wp2
  go_loopw [8] (fun vi wr => ∃ (i : Nat), vi = .int .i64 i ∧ Aside0 (i ≤ l.length) ∧ Aside0 (idxF oddR (l.drop i) i = idxF oddR l 0) ∧ Aside0 (Below w.heap.size w wr)) (fun vi _ => l.length - (intOf vi).toNat)
  case atStart => exact ⟨0, rfl, ⟨Nat.zero_le _⟩, ⟨rfl⟩, ⟨Below.refl _ _⟩⟩
  case round =>
    obtain ⟨i, rfl, hi, hs, HB⟩ := hrel
    have hi' := hi.out
    have hm' := HM.out
    by_cases hlt : i < l.length
    · obtain ⟨ad, rfl, x0, x1⟩ := at_T69 (Kd.C_below HR.out HB.out) (i : Int) (by omega) (by omega)
      have hst : Aside0 ((if oddR (rd_T69 l (i : Int)) = true then (i : Int) else idxF oddR (l.drop (i + 1)) ((i : Int) + 1)) = idxF oddR l 0) := ⟨by
        have := hs.out
        rw [List.drop_eq_getElem_cons hlt] at this
        rw [rd69 hlt]
        exact this⟩
      clear hs
      obtain ⟨r, hr⟩ : ∃ r, r = rd_T69 l (i : Int) := ⟨_, rfl⟩
      rw [← hr] at hst x0 x1
      clear hr
      rw [Int.toNat_natCast] at x0 x1
      obtain ⟨k, u⟩ := r
      obtain ⟨b, hb⟩ : ∃ b, Aside0 (b = oddR ⟨k, u⟩) := ⟨_, ⟨rfl⟩⟩
      rw [← hb.out] at hst
      cases b
      · have e : Aside0 (idxF oddR (l.drop (i + 1)) ((i : Int) + 1) = idxF oddR l 0) := ⟨by have := hst.out; rw [if_neg (by simp)] at this; exact this⟩
        go_wp2_with (go_at_call 68; refine (rows_Fault_1.calls k u false _ (by rw [hb.out]; exact oddR_f ⟨k, u⟩)).mono ?_; rintro e w1 ⟨rfl, hbl⟩; have HB1 := Aside0.mk (below_step HB.out hbl); clear hbl)
        go_roundw
        case rel => exact ⟨i + 1, by go_num, ⟨by omega⟩, e, HB1⟩
        case measure => simp [intOf]; omega
      · have e : Aside0 ((i : Int) = idxF oddR l 0) := ⟨by have := hst.out; rw [if_pos rfl] at this; exact this⟩
        go_wp2_with (go_at_call 68; refine (rows_Fault_1.calls k u true _ (by rw [hb.out]; exact oddR_f ⟨k, u⟩)).mono ?_; rintro e w1 ⟨rfl, hbl⟩; have HB1 := Aside0.mk (below_step HB.out hbl); clear hbl)
        go_ret
        rw [← e.out]
        exact ⟨rfl, HB1.out⟩
    · go_wp2
      go_ret
      have e := hs.out
      rw [List.drop_of_length_le (by omega)] at e
      rw [← e]
      exact ⟨rfl, HB.out⟩
set_option maxRecDepth 100000 in
set_option maxHeartbeats 4000000 in
theorem containsR_walk (A : Option Addr) (c : Nat) (l : List S69) (w : World) (hr : Kd.C k69 w A l.length l) (hc : l.length ≤ c) :
    Calls Try.prog 69 #[.slice A l.length c, .func (Fn.func 68) #[] #[]] w fun e w' => e = .returned (.bool (l.any oddR)) ∧ Below w.heap.size w w' := by
  go_enter Try.func69, Try.ntmps69
  go_wp2_with (go_at_call 83; refine (indexR_walk A c l _ hr hc).mono ?_; rintro e w1 ⟨rfl, hb⟩)
  go_ret
  rw [← idxF_any oddR l 0 (Int.le_refl 0)]
  exact ⟨rfl, hb⟩
def faultF (l cs : List S69) : Int := if 60 < cs.length then 1 else if cs.any oddR = true then 1 else if 40 < (changedF l cs).length then 10 else 0
theorem changedF_len (l cs : List S69) : (changedF l cs).length ≤ l.length + cs.length := by
  induction cs generalizing l with
  | nil => simp [changedF]
  | cons c t ih =>
    have := ih (stepR l c)
    have h2 := stepR_len l c
    simp only [changedF, List.foldl_cons, List.length_cons] at this ⊢
    omega
set_option maxRecDepth 100000 in
set_option maxHeartbeats 4000000 in
theorem fault_walk (A B : Option Addr) (c d : Nat) (l cs : List S69) (w : World) (hr : Kd.C k69 w A l.length l) (hc : l.length ≤ c) (hq : Kd.C k69 w B cs.length cs) (hd : cs.length ≤ d) (hl : l.length ≤ 800000) :
    Calls Try.prog 48 #[.slice A l.length c, .slice B cs.length d] w fun e w' => e = .returned (.int .i64 (faultF l cs)) ∧ Below w.heap.size w w' := by
  have HR := Aside0.mk hr
  have HC := Aside0.mk hc
  have HQ := Aside0.mk hq
  have HD := Aside0.mk hd
  clear hr hc hq hd
  by_cases h1 : 60 < cs.length
  · have e : Aside0 (faultF l cs = 1) := ⟨by unfold faultF; rw [if_pos h1]⟩
    go_enter Try.func48, Try.ntmps48
    go_wp2
    go_ret
    rw [e.out]
    exact ⟨rfl, Below.refl _ _⟩
  have hcalls : Aside0 (∀ W, Below w.heap.size w W → Calls Try.prog 69 #[.slice B cs.length d, .func (Fn.func 68) #[] #[]] W fun e w' => e = .returned (.bool (cs.any oddR)) ∧ Below W.heap.size W w') := ⟨fun W hW => containsR_walk B d cs W (Kd.C_below HQ.out hW) HD.out⟩
  by_cases h2 : cs.any oddR = true
  · have e : Aside0 (faultF l cs = 1) := ⟨by unfold faultF; rw [if_neg h1, if_pos h2]⟩
    rw [h2] at hcalls
    clear h2
    go_enter Try.func48, Try.ntmps48
    go_wp2_with (go_at_call 69; refine (hcalls.out _ (Below.refl _ _)).mono ?_; rintro e w1 ⟨rfl, hb⟩; have HB1 := Aside0.mk hb; clear hb)
    go_ret
    rw [e.out]
    exact ⟨rfl, HB1.out⟩
  have h2' : cs.any oddR = false := Bool.eq_false_iff.2 h2
  rw [h2'] at hcalls
  obtain ⟨ys, hys⟩ : ∃ ys, Aside0 (ys = changedF l cs) := ⟨_, ⟨rfl⟩⟩
  have hch : Aside0 (∀ W, Below w.heap.size w W → Calls Try.prog 49 #[.slice A l.length c, .slice B cs.length d] W fun e w' => ∃ v', e = .returned v' ∧ k69.R 69 w' W.heap.size (fun _ => True) v' ys ∧ Below W.heap.size W w') := ⟨fun W hW => hys.out ▸ changed_walk A B c d l cs W (Kd.C_below HR.out hW) HC.out (Kd.C_below HQ.out hW) HD.out (by omega)⟩
  have hyl : ys.length ≤ 900000 := by have := changedF_len l cs; rw [← hys.out] at this; omega
  by_cases h3 : 40 < ys.length
  · have e : Aside0 (faultF l cs = 10) := ⟨by unfold faultF; rw [if_neg h1, if_neg h2, if_pos (by rw [← hys.out]; exact h3)]⟩
    clear h2 h2'
    go_enter Try.func48, Try.ntmps48
    go_wp2_with (first | (go_at_call 69; refine (hcalls.out _ (Below.refl _ _)).mono ?_; rintro e w1 ⟨rfl, hb⟩; have HB1 := Aside0.mk hb; clear hb) | (go_at_call 49; refine (hch.out _ HB1.out).mono ?_; rintro e w2 ⟨v, rfl, ho, hb⟩; obtain ⟨A2, c2, rfl⟩ := Kd.R_slice ho; have HB2 := Aside0.mk (below_step HB1.out hb); clear ho hb))
    go_ret
    rw [e.out]
    exact ⟨rfl, HB2.out⟩
  · have e : Aside0 (faultF l cs = 0) := ⟨by unfold faultF; rw [if_neg h1, if_neg h2, if_neg (by rw [← hys.out]; exact h3)]⟩
    clear h2 h2'
    go_enter Try.func48, Try.ntmps48
    go_wp2_with (first | (go_at_call 69; refine (hcalls.out _ (Below.refl _ _)).mono ?_; rintro e w1 ⟨rfl, hb⟩; have HB1 := Aside0.mk hb; clear hb) | (go_at_call 49; refine (hch.out _ HB1.out).mono ?_; rintro e w2 ⟨v, rfl, ho, hb⟩; obtain ⟨A2, c2, rfl⟩ := Kd.R_slice ho; have HB2 := Aside0.mk (below_step HB1.out hb); clear ho hb))
    go_ret
    rw [e.out]
    exact ⟨rfl, HB2.out⟩
def setF (l cs : List S69) : List S69 × Int := if rowsErr l ≠ 0 then ([], rowsErr l) else if faultF l cs ≠ 0 then ([], faultF l cs) else (changedF l cs, 0)
def rows_Set.f (l cs : List S69) : Option (List S69 × Int) := some (setF l cs)
theorem check_walk (A : Option Addr) (c : Nat) (l : List S69) (w : World) (hr : Kd.C k69 w A l.length l) (hc : l.length ≤ c) :
    Calls Try.prog 18 #[.slice A l.length c] w fun e w' => e = .returned (.int .i64 (rowsErr l)) ∧ Below w.heap.size w w' := by
  obtain ⟨k, hk⟩ := (check_ev l).rounds
  exact rows_Check.calls k A c l _ w hr hc hk
theorem rowsErr_len {l : List S69} (h : rowsErr l = 0) : l.length ≤ 40 := by
  unfold rowsErr at h
  split at h
  · cases h
  · omega
set_option maxRecDepth 100000 in
set_option maxHeartbeats 4000000 in
theorem rows_Set.calls (A0 : Option Addr) (c0 : Nat) (l0 : List S69) (A1 : Option Addr) (c1 : Nat) (l1 : List S69) (r1 : List S69) (r2 : Int) (w : World) (hr0 : Kd.C k69 w A0 l0.length l0) (hc0 : l0.length ≤ c0) (hr1 : Kd.C k69 w A1 l1.length l1) (hc1 : l1.length ≤ c1) (h : rows_Set.f l0 l1 = some (r1, r2)) :
    Calls Try.prog 25 #[.slice A0 l0.length c0, .slice A1 l1.length c1] w fun e w' => ∃ v0_ : Value, e = .returned (.tuple #[v0_, .int .i64 r2]) ∧ k69.R 69 w' w.heap.size (fun _ => True) v0_ r1 ∧ Below w.heap.size w w' := by
  replace h := Option.some.inj h
  unfold setF at h
  have HR := Aside0.mk hr0
  have HC := Aside0.mk hc0
  have HQ := Aside0.mk hr1
  have HD := Aside0.mk hc1
  obtain ⟨e1, he1⟩ : ∃ z, z = rowsErr l0 := ⟨_, rfl⟩
  obtain ⟨e2, he2⟩ : ∃ z, z = faultF l0 l1 := ⟨_, rfl⟩
  have H1 : Aside0 (∀ W, Below w.heap.size w W → Calls Try.prog 18 #[.slice A0 l0.length c0] W fun e w' => e = .returned (.int .i64 e1) ∧ Below W.heap.size W w') := ⟨fun W hW => he1 ▸ check_walk A0 c0 l0 W (Kd.C_below hr0 hW) hc0⟩
  rw [← he1, ← he2] at h
  by_cases h1 : e1 ≠ 0
  · rw [if_pos h1] at h
    obtain ⟨rfl, rfl⟩ := Prod.mk.inj h
    clear he1 he2 h hr0 hr1
    go_enter Try.func25, Try.ntmps25
    go_wp2_with (go_at_call 18; refine (H1.out _ (Below.refl _ _)).mono ?_; rintro e w1 ⟨rfl, hb⟩; have HB1 := Aside0.mk hb; clear hb)
    go_ret2
    exact ⟨_, rfl, Kd.R_nil _ _ _ _ _, HB1.out⟩
  rw [if_neg h1] at h
  obtain rfl : e1 = 0 := by omega
  have hl40 := rowsErr_len he1.symm
  have H2 : Aside0 (∀ W, Below w.heap.size w W → Calls Try.prog 48 #[.slice A0 l0.length c0, .slice A1 l1.length c1] W fun e w' => e = .returned (.int .i64 e2) ∧ Below W.heap.size W w') := ⟨fun W hW => he2 ▸ fault_walk A0 A1 c0 c1 l0 l1 W (Kd.C_below hr0 hW) hc0 (Kd.C_below hr1 hW) hc1 (by omega)⟩
  by_cases h2 : e2 ≠ 0
  · rw [if_pos h2] at h
    obtain ⟨rfl, rfl⟩ := Prod.mk.inj h
    clear he1 he2 h hr0 hr1 h1
    go_enter Try.func25, Try.ntmps25
    go_wp2_with (first | (go_at_call 18; refine (H1.out _ (Below.refl _ _)).mono ?_; rintro e w1 ⟨rfl, hb⟩; have HB1 := Aside0.mk hb; clear hb) | (go_at_call 48; refine (H2.out _ HB1.out).mono ?_; rintro e w2 ⟨rfl, hb⟩; have HB2 := Aside0.mk (below_step HB1.out hb); clear hb))
    go_ret2
    exact ⟨_, rfl, Kd.R_nil _ _ _ _ _, HB2.out⟩
  rw [if_neg h2] at h
  obtain rfl : e2 = 0 := by omega
  have hl60 : l1.length ≤ 60 := by
    have := he2
    unfold faultF at this
    by_cases hh : 60 < l1.length
    · rw [if_pos hh] at this; omega
    · omega
  have H3 : Aside0 (∀ W, Below w.heap.size w W → Calls Try.prog 49 #[.slice A0 l0.length c0, .slice A1 l1.length c1] W fun e w' => ∃ v', e = .returned v' ∧ k69.R 69 w' W.heap.size (fun _ => True) v' (changedF l0 l1) ∧ Below W.heap.size W w') := ⟨fun W hW => changed_walk A0 A1 c0 c1 l0 l1 W (Kd.C_below hr0 hW) hc0 (Kd.C_below hr1 hW) hc1 (by omega)⟩
  obtain ⟨rfl, rfl⟩ := Prod.mk.inj h
  clear he1 he2 h hr0 hr1 h1 h2
  go_enter Try.func25, Try.ntmps25
  go_wp2_with (first | (go_at_call 18; refine (H1.out _ (Below.refl _ _)).mono ?_; rintro e w1 ⟨rfl, hb⟩; have HB1 := Aside0.mk hb; clear hb) | (go_at_call 48; refine (H2.out _ HB1.out).mono ?_; rintro e w2 ⟨rfl, hb⟩; have HB2 := Aside0.mk (below_step HB1.out hb); clear hb) | (go_at_call 49; refine (H3.out _ HB2.out).mono ?_; rintro e w3 ⟨v, rfl, ho, hb⟩; have HO3 := Aside0.mk (Kd.R_lower ho HB2.out.size); have HB3 := Aside0.mk (below_step HB2.out hb); clear ho hb))
  go_ret2
  exact ⟨_, rfl, HO3.out, HB3.out⟩
end Go.Proofs.Ytnjidfgjldkkcaa.Q
/- A region that draws its order, by facts: each operation is carried out once, in a world that is a letter; what it leaves in its slot is kept. -/
namespace Go.Proofs.Ytnjidfgjldkkcaa.Q
open Go.RowKit Go.Proofs.YtnjidfgjldkkcaaW.PrintWords Go.Proofs.YtnjidfgjldkkcaaW.PrintLast Go.Proofs.YtnjidfgjldkkcaaW.PrintMore
section
variable {P : Program} {ops : Array Oper} {Q : Exit → Act → World → Prop}
theorem count_set {l : List Bool} {i : Nat} (h : l[i]? = some false) : (l.set i true).count false < l.count false := by
  induction l generalizing i with
  | nil => simp at h
  | cons x l ih =>
    cases i with
    | zero =>
      simp at h
      subst h
      simp
    | succ i =>
      simp at h
      have := ih h
      simp only [List.set_cons_succ, List.count_cons]
      omega
theorem getD_false {listed : Array Bool} {i : Nat} (h : listed.getD i true = false) : listed.toList[i]? = some false := by
  rw [Array.getD_eq_getD_getElem?] at h
  rw [Array.getElem?_toList]
  cases hx : listed[i]? with
  | none => rw [hx] at h; simp at h
  | some b => rw [hx] at h; simp at h; rw [h]
/-- Whichever comes up keeps Inv; at the end it gives what is asked. -/
theorem wpAny_inv (Inv : Array Bool → Act → World → Prop)
    (hstep : ∀ listed a w i o, Inv listed a w → ops[i]? = some o → listed.getD i true = false → (∀ e ∈ o.after, Region.binds .any e = true → listed.getD e.on false = true) → wpOp P ops Q i (Inv (listed.setIfInBounds i true)) a w)
    (hend : ∀ listed a w, Inv listed a w → Region.ready .any ops listed = [] → Q .normal a w) :
    ∀ (fuel : Nat) (listed : Array Bool) (a : Act) (w : World), listed.toList.count false ≤ fuel → Inv listed a w → wpAny P .any ops Q fuel listed a w := by
  intro fuel
  induction fuel with
  | zero =>
    intro listed a w hc h
    have hr : Region.ready .any ops listed = [] := by
      refine List.eq_nil_iff_forall_not_mem.2 fun i hi => ?_
      obtain ⟨h0, _⟩ := mem_ready.1 hi
      have := count_set (getD_false h0)
      omega
    exact ⟨hr, hend _ _ _ h hr⟩
  | succ fuel ih =>
    intro listed a w hc h
    refine ⟨hend _ _ _ h, fun i hi => ?_⟩
    obtain ⟨h0, o, ho, ha⟩ := mem_ready.1 hi
    refine wpOp_mono (fun a' w' h' => ih _ a' w' ?_ h') (hstep listed a w i o h ho h0 ha)
    have := count_set (getD_false h0)
    rw [Array.toList_setIfInBounds]
    omega
/-- The slot of an operation. -/
def dstOf (ops : Array Oper) (j : Nat) : Option Tmp := (ops[j]?).bind (·.dst)
def slotOf (ops : Array Oper) (a : Act) (j : Nat) : Value := match dstOf ops j with | some t => a.tmps.getD t undef | none => undef
/-- The region's form: no guards; edges go back; the last one waits for all; each but the last has a slot of its own. -/
def regOk (ops : Array Oper) (n m : Nat) : Bool :=
  ops.size == n + 1 && (List.range (n + 1)).all (fun i => ((ops[i]?).map fun o => o.guard.isNone && o.after.all fun e => decide (e.on < i)).getD false)
  && ((ops[n]?).map fun o => (List.range n).all fun j => o.after.any fun e => Region.binds .any e && e.on == j).getD false
  && (List.range n).all fun i => match dstOf ops i with | none => false | some t => decide (t < m) && (List.range n).all fun j => i == j || dstOf ops j != some t
/-- The frame, with the slots laid. -/
def layF (ops : Array Oper) (n : Nat) (l : List Value) (vs : Nat → Value) : List Value :=
  l.zipIdx.map fun p => match (List.range n).find? (fun j => dstOf ops j == some p.2) with | some j => vs j | none => p.1
structure FrOk (ops : Array Oper) (n : Nat) (a0 a : Act) : Prop where
  size : a.tmps.size = a0.tmps.size
  defers : a.defers = a0.defers
  rest : ∀ k, (∀ j, j < n → dstOf ops j ≠ some k) → a.tmps[k]? = a0.tmps[k]?
theorem FrOk.get {n : Nat} {a0 a : Act} (h : FrOk ops n a0 a) {k : Nat} (hk : ∀ j, j < n → dstOf ops j ≠ some k) : a.tmps.getD k undef = a0.tmps.getD k undef := by
  rw [Array.getD_eq_getD_getElem?, Array.getD_eq_getD_getElem?, h.rest k hk]
theorem FrOk.put {n : Nat} {a0 a : Act} (h : FrOk ops n a0 a) {i : Nat} {o : Oper} (ho : ops[i]? = some o) (hi : i < n) (v : Value) : FrOk ops n a0 (a.put o.dst v) := by
  have hd : dstOf ops i = o.dst := by unfold dstOf; rw [ho]; rfl
  unfold Act.put
  cases hq : o.dst with
  | none => exact h
  | some d =>
    refine ⟨by simpa using h.size, h.defers, fun k hk => ?_⟩
    have hne : d ≠ k := fun e => hk i hi (by rw [hd, hq, e])
    rw [← h.rest k hk]
    simp [hne]
theorem FrOk.lay {n : Nat} {a0 a : Act} (h : FrOk ops n a0 a) : a = ⟨(layF ops n a0.tmps.toList (slotOf ops a)).toArray, a0.defers⟩ := by
  have hd := h.defers
  obtain ⟨t, d⟩ := a
  simp only at hd
  subst hd
  have e : t = (layF ops n a0.tmps.toList (slotOf ops ⟨t, a0.defers⟩)).toArray := by
    apply Array.ext'
    rw [List.toList_toArray]
    refine List.ext_getElem? fun k => ?_
    unfold layF
    rw [List.getElem?_map, List.getElem?_zipIdx]
    have hs := h.size
    simp only at hs
    by_cases hk : k < t.size
    · have hk0 : k < a0.tmps.toList.length := by simpa using hs ▸ hk
      rw [List.getElem?_eq_getElem hk0]
      simp only [Option.map_some, Nat.zero_add]
      cases hf : (List.range n).find? (fun j => dstOf ops j == some k) with
      | none =>
        have := h.rest k (fun j hj e => by
          have := List.find?_eq_none.1 hf j (List.mem_range.2 hj)
          simp [e] at this)
        simp only at this
        rw [Array.getElem?_toList, this, Array.getElem?_eq_getElem (by simpa using hk0)]
        simp
      | some j =>
        have hj := List.find?_some hf
        have hj' : dstOf ops j = some k := by simpa using hj
        rw [Array.getElem?_toList, Array.getElem?_eq_getElem hk]
        simp [slotOf, hj', Array.getD, hk]
    · have hk0 : ¬ k < a0.tmps.toList.length := by rw [Array.length_toList, ← hs]; exact hk
      rw [List.getElem?_eq_none (by rw [Array.length_toList]; exact Nat.not_lt.1 hk), List.getElem?_eq_none (by omega)]
      rfl
  rw [← e]
theorem slot_put_same {i : Nat} {o : Oper} {a : Act} {v : Value} {t : Tmp} (ho : ops[i]? = some o) (ht : dstOf ops i = some t) (hs : t < a.tmps.size) : slotOf ops (a.put o.dst v) i = v := by
  have hd : o.dst = some t := by unfold dstOf at ht; rw [ho] at ht; exact ht
  unfold slotOf
  rw [ht, hd]
  simp [Act.put, Array.getD, hs]
theorem slot_put_other {i j : Nat} {o : Oper} {a : Act} {v : Value} {t : Tmp} (ho : ops[i]? = some o) (ht : dstOf ops i = some t) (hne : dstOf ops j ≠ some t) : slotOf ops (a.put o.dst v) j = slotOf ops a j := by
  have hd : o.dst = some t := by unfold dstOf at ht; rw [ho] at ht; exact ht
  unfold slotOf
  rw [hd]
  cases hj : dstOf ops j with
  | none => rfl
  | some k =>
    have hk : t ≠ k := fun e => hne (by rw [hj, e])
    simp [Act.put, Array.getD_eq_getD_getElem?, hk]
/-- A region that draws its order, by facts. -/
theorem wp_region_facts {id : Nat} {a0 : Act} {w0 : World} (n : Nat) (Pv : Nat → Value → World → Prop) (hm : P.follows .mixedOrders = true) (hok : regOk ops n a0.tmps.size = true)
    (hmono : ∀ j v w w', Pv j v w → Below w.heap.size w w' → Pv j v w')
    (hstep : ∀ i o a w, i < n → ops[i]? = some o → FrOk ops n a0 a → Below w0.heap.size w0 w → (∀ e ∈ o.after, Region.binds .any e = true → Pv e.on (slotOf ops a e.on) w) → o.wp P a w (fun a' w' => ∃ v, a' = a.put o.dst v ∧ Below w.heap.size w w' ∧ Pv i v w') Q)
    (htail : ∀ o vs w, ops[n]? = some o → Below w0.heap.size w0 w → (∀ j, j < n → Pv j (vs j) w) → o.wp P ⟨(layF ops n a0.tmps.toList vs).toArray, a0.defers⟩ w (Q .normal) Q) :
    (Code.region id ops true).wp P Q a0 w0 := by
  unfold regOk at hok
  simp only [Bool.and_eq_true] at hok
  obtain ⟨⟨⟨h1, h2⟩, h3⟩, h4⟩ := hok
  have hn : ops.size = n + 1 := by simpa using h1
  have hG : ∀ (i : Nat) (o : Oper), ops[i]? = some o → o.guard = none ∧ ∀ e ∈ o.after, e.on < i := by
    intro i o ho
    have hlt : i < ops.size := (Array.getElem?_eq_some_iff.1 ho).1
    have := List.all_eq_true.1 h2 i (List.mem_range.2 (by omega))
    rw [ho] at this
    simp only [Option.map_some, Option.getD_some, Bool.and_eq_true] at this
    refine ⟨by simpa using this.1, fun e he => ?_⟩
    have h := Array.all_eq_true_iff_forall_mem.1 this.2 e he
    simpa using h
  have hL : ∀ (o : Oper), ops[n]? = some o → ∀ j, j < n → ∃ e ∈ o.after, Region.binds .any e = true ∧ e.on = j := by
    intro o ho j hj
    rw [ho] at h3
    simp only [Option.map_some, Option.getD_some] at h3
    have h := List.all_eq_true.1 h3 j (List.mem_range.2 hj)
    obtain ⟨i, hi, he⟩ := Array.any_eq_true.1 h
    simp only [Bool.and_eq_true, beq_iff_eq] at he
    exact ⟨_, Array.getElem_mem hi, he.1, he.2⟩
  have hD : ∀ i, i < n → ∃ t, dstOf ops i = some t ∧ t < a0.tmps.size ∧ ∀ j, j < n → j ≠ i → dstOf ops j ≠ some t := by
    intro i hi
    have h := List.all_eq_true.1 h4 i (List.mem_range.2 hi)
    cases hd : dstOf ops i with
    | none => rw [hd] at h; simp at h
    | some t =>
      rw [hd] at h
      simp only [Bool.and_eq_true] at h
      refine ⟨t, rfl, by simpa using h.1, fun j hj hne => ?_⟩
      have h' := List.all_eq_true.1 h.2 j (List.mem_range.2 hj)
      intro hx
      rw [hx] at h'
      simp [Ne.symm hne] at h'
  have hW : ∀ (i : Nat) (o : Oper) (a : Act), ops[i]? = some o → Region.wanted o (yielded ops a.tmps) = true := fun i o a ho => by
    unfold Region.wanted
    rw [(hG i o ho).1]
  refine wp_region_any hm ?_
  have hdr : Below w0.heap.size w0 { w0 with drawn := w0.drawn + 1 } := below_drew (Below.refl _ _)
  refine wpAny_inv (fun listed a w => (listed.size = n + 1) ∧ (((∀ j, j < n + 1 → listed.getD j false = true) ∧ Q .normal a w) ∨ (listed.getD n false = false ∧ FrOk ops n a0 a ∧ Below w0.heap.size w0 w ∧ ∀ j, j < n → listed.getD j false = true → Pv j (slotOf ops a j) w))) ?_ ?_ _ _ _ _ ?_ ?_
  · intro listed a w i o ⟨hsz, hI⟩ ho h0 ha
    have hi : i < n + 1 := by rw [← hn]; exact (Array.getElem?_eq_some_iff.1 ho).1
    have hnew : ∀ j, (listed.setIfInBounds i true).getD j false = if i = j then true else listed.getD j false := fun j => by
      by_cases e : i = j
      · subst e; simp [Array.getD_eq_getD_getElem?, hsz, hi]
      · simp [Array.getD_eq_getD_getElem?, e]
    unfold wpOp
    rw [ho]
    simp only [hW i o a ho, if_true]
    rcases hI with ⟨hl, -⟩ | ⟨hl, hF, hB, hP⟩
    · exfalso
      have hl := hl i hi
      rw [Array.getD_eq_getD_getElem?] at h0 hl
      cases hx : listed[i]? <;> rw [hx] at h0 hl <;> simp_all
    · rcases Nat.lt_or_ge i n with hlt | hge
      · refine .inl (Oper.wp_mono ?_ (hstep i o a w hlt ho hF hB (fun e he hb => hP _ (Nat.lt_trans ((hG i o ho).2 e he) hlt) (ha e he hb))))
        rintro a' w' ⟨v, rfl, hb, hv⟩
        refine ⟨by simpa using hsz, .inr ⟨by rw [hnew, if_neg (by omega)]; exact hl, hF.put ho hlt v, below_step hB hb, fun j hj hjl => ?_⟩⟩
        obtain ⟨t, ht, hts, hto⟩ := hD i hlt
        by_cases e : i = j
        · subst e
          rw [slot_put_same ho ht (by rw [hF.size]; exact hts)]
          exact hv
        · rw [slot_put_other ho ht (hto j hj (Ne.symm e))]
          rw [hnew, if_neg e] at hjl
          exact hmono _ _ _ _ (hP j hj hjl) hb
      · have : i = n := by omega
        subst this
        have hall : ∀ j, j < i → Pv j (slotOf ops a j) w := fun j hj => by
          obtain ⟨e, he, hb, rfl⟩ := hL o ho j hj
          exact hP _ hj (ha e he hb)
        refine .inl (Oper.wp_mono ?_ (by rw [hF.lay]; exact htail o (slotOf ops a) w ho hB hall))
        intro a' w' hq
        refine ⟨by simpa using hsz, .inl ⟨fun j hj => ?_, hq⟩⟩
        rw [hnew]
        by_cases hij : i = j
        · rw [if_pos hij]
        · rw [if_neg hij]
          obtain ⟨e, he, hb, rfl⟩ := hL o ho j (by omega)
          exact ha e he hb
  · intro listed a w ⟨hsz, hI⟩ hr
    rcases hI with ⟨_, hq⟩ | ⟨hl, -, -, -⟩
    · exact hq
    · exfalso
      have hall : ∀ i, i < n + 1 → listed.getD i false = true := by
        intro i
        induction i using Nat.strongRecOn with
        | ind i ih =>
          intro hi
          cases hx : listed.getD i false with
          | true => rfl
          | false =>
            exfalso
            obtain ⟨o, ho⟩ : ∃ o, ops[i]? = some o := ⟨_, Array.getElem?_eq_getElem (by omega)⟩
            have : i ∈ Region.ready .any ops listed := mem_ready.2 ⟨by
              have hs : i < listed.size := by omega
              simpa [Array.getD, hs] using hx, o, ho, fun e he _ => ih _ ((hG i o ho).2 e he) (by have := (hG i o ho).2 e he; omega)⟩
            rw [hr] at this
            cases this
      have := hall n (by omega)
      rw [hl] at this
      cases this
  · simp [hn]
  · refine ⟨by simp [hn], .inr ⟨by simp [Array.getD, hn], ⟨rfl, rfl, fun _ _ => rfl⟩, hdr, fun j hj h => ?_⟩⟩
    have hs : j < ops.size := by omega
    simp [Array.getD, hs] at h
/-- The form of a region with a tail in a forced order: no guards ahead of it; edges go back; each operation ahead has a waiter, and a slot of its own. -/
def regOk2 (ops : Array Oper) (n m : Nat) : Bool :=
  decide (n < ops.size) && Region.sinkB .any ops n && Region.chainB .any ops n
  && (List.range ops.size).all (fun i => ((ops[i]?).map fun o => o.after.all fun e => decide (e.on < i)).getD false)
  && (List.range n).all (fun i => ((ops[i]?).map fun o => o.guard.isNone).getD false)
  && (List.range n).all fun i => match dstOf ops i with | none => false | some t => decide (t < m) && (List.range n).all fun j => i == j || dstOf ops j != some t
/-- A region that draws its order, by facts, with a tail in a forced order. -/
theorem wp_region_tail {id : Nat} {a0 : Act} {w0 : World} (n : Nat) (Pv : Nat → Value → World → Prop) (hm : P.follows .mixedOrders = true) (hok : regOk2 ops n a0.tmps.size = true)
    (hmono : ∀ j v w w', Pv j v w → Below w.heap.size w w' → Pv j v w')
    (hstep : ∀ i o a w, i < n → ops[i]? = some o → FrOk ops n a0 a → Below w0.heap.size w0 w → (∀ e ∈ o.after, Region.binds .any e = true → Pv e.on (slotOf ops a e.on) w) → o.wp P a w (fun a' w' => ∃ v, a' = a.put o.dst v ∧ Below w.heap.size w w' ∧ Pv i v w') Q)
    (htail : ∀ vs w, Below w0.heap.size w0 w → (∀ j, j < n → Pv j (vs j) w) → wpList P ops Q (ops.toList.drop n) ⟨(layF ops n a0.tmps.toList vs).toArray, a0.defers⟩ w) :
    (Code.region id ops true).wp P Q a0 w0 := by
  unfold regOk2 at hok
  simp only [Bool.and_eq_true] at hok
  obtain ⟨⟨⟨⟨⟨h1, hsink⟩, hchain⟩, h2⟩, h3⟩, h4⟩ := hok
  have hn : n < ops.size := of_decide_eq_true h1
  have hB : ∀ (i : Nat) (o : Oper), ops[i]? = some o → ∀ e ∈ o.after, e.on < i := by
    intro i o ho
    have hlt : i < ops.size := (Array.getElem?_eq_some_iff.1 ho).1
    have := List.all_eq_true.1 h2 i (List.mem_range.2 hlt)
    rw [ho] at this
    simp only [Option.map_some, Option.getD_some] at this
    intro e he
    simpa using Array.all_eq_true_iff_forall_mem.1 this e he
  have hG : ∀ (i : Nat) (o : Oper), i < n → ops[i]? = some o → o.guard = none := by
    intro i o hi ho
    have := List.all_eq_true.1 h3 i (List.mem_range.2 hi)
    rw [ho] at this
    simpa using this
  have hD : ∀ i, i < n → ∃ t, dstOf ops i = some t ∧ t < a0.tmps.size ∧ ∀ j, j < n → j ≠ i → dstOf ops j ≠ some t := by
    intro i hi
    have h := List.all_eq_true.1 h4 i (List.mem_range.2 hi)
    cases hd : dstOf ops i with
    | none => rw [hd] at h; simp at h
    | some t =>
      rw [hd] at h
      simp only [Bool.and_eq_true] at h
      refine ⟨t, rfl, by simpa using h.1, fun j hj hne => ?_⟩
      have h' := List.all_eq_true.1 h.2 j (List.mem_range.2 hj)
      intro hx
      rw [hx] at h'
      simp [Ne.symm hne] at h'
  have hW : ∀ (i : Nat) (o : Oper) (a : Act), i < n → ops[i]? = some o → Region.wanted o (yielded ops a.tmps) = true := fun i o a hi ho => by
    unfold Region.wanted
    rw [hG i o hi ho]
  have hS : ∀ i, i < n → ∃ j, j ≤ n ∧ i < j ∧ Region.waitsFor .any ops j i = true := by
    intro i hi
    have h := List.all_eq_true.1 hsink i (List.mem_range.2 hi)
    obtain ⟨j, hj, h⟩ := List.any_eq_true.1 h
    simp only [Bool.and_eq_true, decide_eq_true_eq] at h
    exact ⟨j, by have := List.mem_range.1 hj; omega, h.1, h.2⟩
  have hC : ∀ t, n < t → t < ops.size → Region.waitsFor .any ops t (t - 1) = true := by
    intro t ht hts
    have h := List.all_eq_true.1 hchain t (List.mem_range.2 hts)
    simp only [Bool.or_eq_true, decide_eq_true_eq] at h
    exact h.resolve_left (by omega)
  have hdrop : ∀ t o, ops[t]? = some o → ops.toList.drop t = o :: ops.toList.drop (t + 1) := by
    intro t o ho
    have hlt : t < ops.size := (Array.getElem?_eq_some_iff.1 ho).1
    rw [List.drop_eq_getElem_cons (by simpa using hlt)]
    congr 1
    have := (Array.getElem?_eq_some_iff.1 ho).2
    rw [Array.getElem_toList]
    exact this
  refine wp_region_any hm ?_
  have hdr : Below w0.heap.size w0 { w0 with drawn := w0.drawn + 1 } := below_drew (Below.refl _ _)
  refine wpAny_inv (fun listed a w => listed.size = ops.size ∧ (∀ j o, ops[j]? = some o → listed.getD j false = true → ∀ e ∈ o.after, Region.binds .any e = true → listed.getD e.on false = true) ∧
    ((∃ t, n < t ∧ t ≤ ops.size ∧ (∀ j, j < ops.size → listed.getD j false = decide (j < t)) ∧ wpList P ops Q (ops.toList.drop t) a w) ∨
      ((∀ t, n ≤ t → listed.getD t false = false) ∧ FrOk ops n a0 a ∧ Below w0.heap.size w0 w ∧ ∀ j, j < n → listed.getD j false = true → Pv j (slotOf ops a j) w))) ?_ ?_ _ _ _ _ ?_ ?_
  · intro listed a w i o ⟨hsz, hcl, hI⟩ ho h0 ha
    have hi : i < ops.size := (Array.getElem?_eq_some_iff.1 ho).1
    have h0' : listed.getD i false = false := by
      rw [Array.getD_eq_getD_getElem?] at h0 ⊢
      cases hx : listed[i]? <;> rw [hx] at h0 <;> simp_all
    have hnew : ∀ j, (listed.setIfInBounds i true).getD j false = if i = j then true else listed.getD j false := fun j => by
      by_cases e : i = j
      · subst e; simp [Array.getD_eq_getD_getElem?, hsz, hi]
      · simp [Array.getD_eq_getD_getElem?, e]
    have hcl' : ∀ j o, ops[j]? = some o → (listed.setIfInBounds i true).getD j false = true → ∀ e ∈ o.after, Region.binds .any e = true → (listed.setIfInBounds i true).getD e.on false = true := by
      intro j oj hoj hj e he hb
      rw [hnew] at hj ⊢
      by_cases e1 : i = e.on
      · rw [if_pos e1]
      rw [if_neg e1]
      by_cases e2 : i = j
      · subst e2
        rw [ho] at hoj
        cases hoj
        exact ha e he hb
      · rw [if_neg e2] at hj
        exact hcl j oj hoj hj e he hb
    -- one step of the tail
    have tailStep : ∀ t, n ≤ t → i = t → (∀ j, j < ops.size → listed.getD j false = decide (j < t)) → wpList P ops Q (ops.toList.drop t) a w → wpOp P ops Q i (fun a w => (listed.setIfInBounds i true).size = ops.size ∧ (∀ j o, ops[j]? = some o → (listed.setIfInBounds i true).getD j false = true → ∀ e ∈ o.after, Region.binds .any e = true → (listed.setIfInBounds i true).getD e.on false = true) ∧
        ((∃ t, n < t ∧ t ≤ ops.size ∧ (∀ j, j < ops.size → (listed.setIfInBounds i true).getD j false = decide (j < t)) ∧ wpList P ops Q (ops.toList.drop t) a w) ∨
          ((∀ t, n ≤ t → (listed.setIfInBounds i true).getD t false = false) ∧ FrOk ops n a0 a ∧ Below w0.heap.size w0 w ∧ ∀ j, j < n → (listed.setIfInBounds i true).getD j false = true → Pv j (slotOf ops a j) w))) a w := by
      intro t ht e hl hw
      subst e
      rw [hdrop i o ho] at hw
      have hfin : ∀ a' w', wpList P ops Q (ops.toList.drop (i + 1)) a' w' → (listed.setIfInBounds i true).size = ops.size ∧ (∀ j o, ops[j]? = some o → (listed.setIfInBounds i true).getD j false = true → ∀ e ∈ o.after, Region.binds .any e = true → (listed.setIfInBounds i true).getD e.on false = true) ∧
        ((∃ t, n < t ∧ t ≤ ops.size ∧ (∀ j, j < ops.size → (listed.setIfInBounds i true).getD j false = decide (j < t)) ∧ wpList P ops Q (ops.toList.drop t) a' w') ∨
          ((∀ t, n ≤ t → (listed.setIfInBounds i true).getD t false = false) ∧ FrOk ops n a0 a' ∧ Below w0.heap.size w0 w' ∧ ∀ j, j < n → (listed.setIfInBounds i true).getD j false = true → Pv j (slotOf ops a' j) w')) := by
        intro a' w' h'
        refine ⟨by simpa using hsz, hcl', .inl ⟨i + 1, by omega, by omega, fun j hj => ?_, h'⟩⟩
        rw [hnew]
        by_cases e : i = j
        · subst e; simp
        · rw [if_neg e, hl j hj, Bool.eq_iff_iff]
          simp only [decide_eq_true_eq]
          omega
      unfold wpOp
      rw [ho]
      unfold wpList at hw
      simp only
      split
      · rename_i hwt
        rw [if_pos hwt] at hw
        exact hw.imp (Oper.wp_mono hfin) (fun h => h)
      · rename_i hwt
        rw [if_neg hwt] at hw
        exact hfin _ _ hw
    rcases hI with ⟨t, ht1, ht2, hl, hw⟩ | ⟨hl, hF, hBl, hP⟩
    · have hit : i = t := by
        have h5 : ¬ i < t := by
          intro h
          have := hl i hi
          rw [h0', decide_eq_true h] at this
          cases this
        obtain ⟨oj, hoj, e, he, hb, heo⟩ := Region.waitsFor_spec (hC i (by omega) hi)
        rw [ho] at hoj
        cases hoj
        have h6 := ha e he hb
        rw [heo, hl _ (by omega)] at h6
        have := of_decide_eq_true h6
        omega
      exact tailStep t (by omega) hit hl hw
    · rcases Nat.lt_or_ge i n with hlt | hge
      · unfold wpOp
        rw [ho]
        simp only [hW i o a hlt ho, if_true]
        refine .inl (Oper.wp_mono ?_ (hstep i o a w hlt ho hF hBl (fun e he hb => hP _ (Nat.lt_trans (hB i o ho e he) hlt) (ha e he hb))))
        rintro a' w' ⟨v, rfl, hb, hv⟩
        refine ⟨by simpa using hsz, hcl', .inr ⟨fun t ht => by rw [hnew, if_neg (by omega)]; exact hl t ht, hF.put ho hlt v, below_step hBl hb, fun j hj hjl => ?_⟩⟩
        obtain ⟨t, ht, hts, hto⟩ := hD i hlt
        by_cases e : i = j
        · subst e
          rw [slot_put_same ho ht (by rw [hF.size]; exact hts)]
          exact hv
        · rw [slot_put_other ho ht (hto j hj (Ne.symm e))]
          rw [hnew, if_neg e] at hjl
          exact hmono _ _ _ _ (hP j hj hjl) hb
      · have hin : i = n := by
          rcases Nat.lt_or_ge n i with h | h
          · exfalso
            obtain ⟨oj, hoj, e, he, hb, heo⟩ := Region.waitsFor_spec (hC i h hi)
            rw [ho] at hoj
            cases hoj
            have h6 := ha e he hb
            rw [heo, hl _ (by omega)] at h6
            cases h6
          · omega
        subst hin
        have hallD : ∀ d j, j < i → i - j ≤ d → listed.getD j false = true := by
          intro d
          induction d with
          | zero => intro j hj hd; omega
          | succ d ih =>
            intro j hj hd
            obtain ⟨k, hk, hjk, hwt⟩ := hS j hj
            obtain ⟨ok, hok, e, he, hb, heo⟩ := Region.waitsFor_spec hwt
            rcases Nat.lt_or_ge k i with hki | hki
            · have := hcl k ok hok (ih k hki (by omega)) e he hb
              rwa [heo] at this
            · have : k = i := by omega
              subst this
              rw [ho] at hok
              cases hok
              have := ha e he hb
              rwa [heo] at this
        refine tailStep i (Nat.le_refl _) rfl (fun j hj => ?_) ?_
        · by_cases h : j < i
          · rw [hallD _ j h (Nat.le_refl _), decide_eq_true h]
          · rw [hl j (by omega), decide_eq_false h]
        · rw [hF.lay]
          exact htail (slotOf ops a) w hBl (fun j hj => hP j hj (hallD _ j hj (Nat.le_refl _)))
  · intro listed a w ⟨hsz, hcl, hI⟩ hr
    have hno : ∀ i, i < ops.size → (∀ o, ops[i]? = some o → ∀ e ∈ o.after, Region.binds .any e = true → listed.getD e.on false = true) → listed.getD i false = true := by
      intro i hi ha
      cases hx : listed.getD i false with
      | true => rfl
      | false =>
        exfalso
        have : i ∈ Region.ready .any ops listed := mem_ready.2 ⟨by
          have hs : i < listed.size := by omega
          simpa [Array.getD, hs] using hx, _, Array.getElem?_eq_getElem hi, ha _ (Array.getElem?_eq_getElem hi)⟩
        rw [hr] at this
        cases this
    rcases hI with ⟨t, ht1, ht2, hl, hw⟩ | ⟨hl, -, -, -⟩
    · rcases Nat.lt_or_ge t ops.size with h | h
      · exfalso
        have := hno t h (fun o ho e he _ => by
          have := hB t o ho e he
          rw [hl _ (by omega), decide_eq_true this])
        rw [hl t h, decide_eq_false (by omega)] at this
        cases this
      · rw [List.drop_of_length_le (by simpa using h)] at hw
        exact hw
    · exfalso
      have hall : ∀ i, i < ops.size → listed.getD i false = true := by
        intro i
        induction i using Nat.strongRecOn with
        | ind i ih =>
          intro hi
          exact hno i hi (fun o ho e he _ => ih _ (hB i o ho e he) (by have := hB i o ho e he; omega))
      have := hall n hn
      rw [hl n (Nat.le_refl _)] at this
      cases this
  · simp
  · have hrep : ∀ j, (Array.replicate ops.size false).getD j false = false := fun j => by
      by_cases hs : j < ops.size <;> simp [Array.getD, hs]
    refine ⟨by simp, fun j o _ h => (by rw [hrep] at h; cases h), .inr ⟨fun t _ => hrep t, ⟨rfl, rfl, fun _ _ => rfl⟩, hdr, fun j _ h => (by rw [hrep] at h; cases h)⟩⟩
end
end Go.Proofs.Ytnjidfgjldkkcaa.Q
/- bagnallkeep.Changes, walked. -/
namespace Go.Proofs.Ytnjidfgjldkkcaa.Q
open Go.RowKit Go.Proofs.YtnjidfgjldkkcaaW.PrintWords Go.Proofs.YtnjidfgjldkkcaaW.PrintLast Go.Proofs.YtnjidfgjldkkcaaW.PrintMore Go.Proofs.Ytnjidfgjldkkcaa.Plain
set_option maxRecDepth 100000 in
set_option maxHeartbeats 16000000 in
theorem changes_walk (A : Option Addr) (c : Nat) (l : List Int) (n : Nat) (w : World) (hr : Kd.C (Kd.int .i64) w A l.length l) (hc : l.length ≤ c) (hn : n ≤ 3) :
    Calls Try.prog 63 #[.slice A l.length c, .int .i64 (n : Int)] w fun e w' => ∃ v cs, e = .returned v ∧ k69.R 69 w' w.heap.size (fun _ => True) v cs ∧ cs.length = min l.length n ∧ (∀ r ∈ cs, r.f0.size ≤ 2) ∧ Below w.heap.size w w' := by
  have HR := Aside0.mk hr
  have HC := Aside0.mk hc
  clear hr hc
  go_enter Try.func63, Try.ntmps63
  go_wp2
  go_loopw [5, 6] (fun v5 v6 wr => ∃ (i : Nat) (cs : List S69), v6 = .int .i64 i ∧ Aside0 (i ≤ l.length ∧ i ≤ n) ∧ Aside0 (cs.length = i) ∧ Aside0 (∀ r ∈ cs, r.f0.size ≤ 2) ∧ Aside0 (k69.R 69 wr w.heap.size (fun _ => True) v5 cs) ∧ Aside0 (Below w.heap.size w wr)) (fun _ v6 _ => n - (intOf v6).toNat)
  case atStart => exact ⟨0, [], rfl, ⟨Nat.zero_le _, Nat.zero_le _⟩, ⟨rfl⟩, ⟨by simp⟩, ⟨Kd.R_nil _ _ _ _ _⟩, ⟨Below.refl _ _⟩⟩
  case round =>
    obtain ⟨i, cs, rfl, hi, hcl, hsm, HO, HB⟩ := hrel
    have hi1 := hi.out.1
    have hi2 := hi.out.2
    by_cases hlt : i < l.length
    · by_cases hln : i < n
      · obtain ⟨ad, rfl, hx⟩ := Kd.at_int (Kd.C_below HR.out HB.out) (i : Int) (by omega) (by omega)
        rw [Int.toNat_natCast] at hx
        obtain ⟨x, hxx⟩ : ∃ x, x = rd l (i : Int) := ⟨_, rfl⟩
        rw [← hxx] at hx
        clear hxx
        have hw8 : IntKind.i64.wrap (x.tdiv 8) = IntKind.i64.wrap (x.tdiv 8) := rfl
        have H1 : Aside0 (∀ W, Calls Try.prog 64 #[.int .i64 x, .int .i64 8] W fun e w' => e = .returned (.int .i64 ((pickF x 8 : Nat) : Int)) ∧ W = w') := ⟨fun W => picked_walk x 8 W (by omega) (by omega)⟩
        have H2 : Aside0 (∀ y W, Calls Try.prog 64 #[.int .i64 y, .int .i64 4] W fun e w' => e = .returned (.int .i64 ((pickF y 4 : Nat) : Int)) ∧ W = w') := ⟨fun y W => picked_walk y 4 W (by omega) (by omega)⟩
        obtain ⟨k8, hk8, hkz⟩ : ∃ k8 : ByteArray, (#[Value.string ⟨#[97]⟩, .string ⟨#[98]⟩, .string ⟨#[97, 98]⟩, .string ⟨#[97, 99]⟩, .string ⟨#[98, 255]⟩, .string ⟨#[107]⟩, .string ⟨#[107, 49]⟩, .string ⟨#[255]⟩] : Array Value)[pickF x 8]? = some (.string k8) ∧ k8.size ≤ 2 := by
          have := pickF_lt x 8 (by omega)
          generalize pickF x 8 = p at *
          match p, this with
          | 0, _ => exact ⟨_, rfl, by decide⟩
          | 1, _ => exact ⟨_, rfl, by decide⟩
          | 2, _ => exact ⟨_, rfl, by decide⟩
          | 3, _ => exact ⟨_, rfl, by decide⟩
          | 4, _ => exact ⟨_, rfl, by decide⟩
          | 5, _ => exact ⟨_, rfl, by decide⟩
          | 6, _ => exact ⟨_, rfl, by decide⟩
          | 7, _ => exact ⟨_, rfl, by decide⟩
        have hv4 : ∀ y, ∃ v4 : ByteArray, (#[Value.string ⟨#[]⟩, .string ⟨#[120]⟩, .string ⟨#[121]⟩, .string ⟨#[122, 122]⟩] : Array Value)[pickF y 4]? = some (.string v4) := fun y => by
          have := pickF_lt y 4 (by omega)
          generalize pickF y 4 = p at *
          match p, this with
          | 0, _ => exact ⟨_, rfl⟩
          | 1, _ => exact ⟨_, rfl⟩
          | 2, _ => exact ⟨_, rfl⟩
          | 3, _ => exact ⟨_, rfl⟩
        have hp8 := pickF_lt x 8 (by omega)
        obtain ⟨y, hy⟩ : ∃ y, y = IntKind.i64.wrap (x.tdiv 8) := ⟨_, rfl⟩
        obtain ⟨v4, hk4⟩ := hv4 y
        have hp4 := pickF_lt y 4 (by omega)
        generalize pickF x 8 = p8 at *
        generalize hg4 : pickF y 4 = p4 at *
        clear hv4
        have H2' : ∀ W, Calls Try.prog 64 #[.int .i64 y, .int .i64 4] W fun e w' => e = .returned (.int .i64 ((p4 : Nat) : Int)) ∧ W = w' := fun W => hg4 ▸ H2.out y W
        have hp8i : (p8 : Int) < 8 := by omega
        have hp4i : (p4 : Int) < 4 := by omega
        clear hg4
        go_wp2
        refine wp_region_facts 19 (fun j v w => match j with
          | 0 => ∃ b, wr.heap.size ≤ b ∧ v = .slice (some ⟨b, 0, none⟩) 8 8 ∧ w.heap[b]? = some (.cells #[Value.string ⟨#[97]⟩, .string ⟨#[98]⟩, .string ⟨#[97, 98]⟩, .string ⟨#[97, 99]⟩, .string ⟨#[98, 255]⟩, .string ⟨#[107]⟩, .string ⟨#[107, 49]⟩, .string ⟨#[255]⟩] 9 (0, 0))
          | 1 | 9 => v = .slice (some ad) l.length c
          | 2 | 10 => v = .int .i64 i
          | 3 | 11 => v = .pointer (some (ad.add i))
          | 4 | 12 => v = .int .i64 x
          | 5 => v = .int .i64 p8
          | 6 => ∃ b, v = .pointer (some ⟨b, p8, none⟩) ∧ w.heap[b]? = some (.cells #[Value.string ⟨#[97]⟩, .string ⟨#[98]⟩, .string ⟨#[97, 98]⟩, .string ⟨#[97, 99]⟩, .string ⟨#[98, 255]⟩, .string ⟨#[107]⟩, .string ⟨#[107, 49]⟩, .string ⟨#[255]⟩] 9 (0, 0))
          | 7 => v = .string k8
          | 8 => ∃ b, wr.heap.size ≤ b ∧ v = .slice (some ⟨b, 0, none⟩) 4 4 ∧ w.heap[b]? = some (.cells #[Value.string ⟨#[]⟩, .string ⟨#[120]⟩, .string ⟨#[121]⟩, .string ⟨#[122, 122]⟩] 9 (0, 0))
          | 13 => v = .int .i64 y
          | 14 => v = .int .i64 p4
          | 15 => ∃ b, v = .pointer (some ⟨b, p4, none⟩) ∧ w.heap[b]? = some (.cells #[Value.string ⟨#[]⟩, .string ⟨#[120]⟩, .string ⟨#[121]⟩, .string ⟨#[122, 122]⟩] 9 (0, 0))
          | 16 => v = .string v4
          | 17 => v = .agg #[.string k8, .string v4]
          | _ => ∃ b c0 c1, wr.heap.size ≤ b ∧ v = .pointer (some ⟨b, 0, none⟩) ∧ w.heap[b]? = some (.cells #[c0, c1] 69 (0, 0))) (by kernel_rfl) (by kernel_rfl) ?_ ?_ ?_
        · intro j v w w' h hb
          rcases j with _ | _ | _ | _ | _ | _ | _ | _ | _ | _ | _ | _ | _ | _ | _ | _ | _ | _ | j
          all_goals first | exact h | (obtain ⟨b, h1, h2⟩ := h; exact ⟨b, h1, (hb.block b (blk_lt h2)).trans h2⟩) | (obtain ⟨b, h1, h2, h3⟩ := h; exact ⟨b, h1, h2, (hb.block b (blk_lt h3)).trans h3⟩) | (obtain ⟨b, c0, c1, h1, h2, h3⟩ := h; exact ⟨b, c0, c1, h1, h2, (hb.block b (blk_lt h3)).trans h3⟩)
        · intro j o a w hj ho hF hB hd
          have hBs := hB.size
          have hw := hB.cell (World.block_lt_of_cell? wr _ hx)
          rw [hx] at hw
          obtain rfl | rfl | rfl | rfl | rfl | rfl | rfl | rfl | rfl | rfl | rfl | rfl | rfl | rfl | rfl | rfl | rfl | rfl | rfl : j = 0 ∨ j = 1 ∨ j = 2 ∨ j = 3 ∨ j = 4 ∨ j = 5 ∨ j = 6 ∨ j = 7 ∨ j = 8 ∨ j = 9 ∨ j = 10 ∨ j = 11 ∨ j = 12 ∨ j = 13 ∨ j = 14 ∨ j = 15 ∨ j = 16 ∨ j = 17 ∨ j = 18 := by omega
          case inl =>
            cases ho
            go_simp
            exact ⟨_, rfl, below_alloc (Below.refl _ _) _, _, hBs, rfl, blk_new w _⟩
          case inr.inl =>
            cases ho
            have e0 := hF.get (k := 0) (by decide +kernel)
            change a.tmps.getD 0 undef = .slice (some ad) l.length c at e0
            go_simp
            exact Below.refl _ _
          case inr.inr.inr.inr.inr.inr.inr.inr.inr.inl =>
            cases ho
            have e0 := hF.get (k := 0) (by decide +kernel)
            change a.tmps.getD 0 undef = .slice (some ad) l.length c at e0
            go_simp
            exact Below.refl _ _
          case inr.inr.inl =>
            cases ho
            have e0 := hF.get (k := 6) (by decide +kernel)
            change a.tmps.getD 6 undef = .int .i64 i at e0
            go_simp
            exact Below.refl _ _
          case inr.inr.inr.inr.inr.inr.inr.inr.inr.inr.inl =>
            cases ho
            have e0 := hF.get (k := 6) (by decide +kernel)
            change a.tmps.getD 6 undef = .int .i64 i at e0
            go_simp
            exact Below.refl _ _
          case inr.inr.inr.inl =>
            cases ho
            have e1 : a.tmps.getD 20 undef = _ := hd ⟨1, .data⟩ (by simp) rfl
            have e2 : a.tmps.getD 21 undef = _ := hd ⟨2, .data⟩ (by simp) rfl
            go_simp
            exact Below.refl _ _
          case inr.inr.inr.inr.inr.inr.inr.inr.inr.inr.inr.inl =>
            cases ho
            have e9 : a.tmps.getD 28 undef = _ := hd ⟨9, .data⟩ (by simp) rfl
            have e10 : a.tmps.getD 29 undef = _ := hd ⟨10, .data⟩ (by simp) rfl
            go_simp
            exact Below.refl _ _
          case inr.inr.inr.inr.inl =>
            cases ho
            have e3 : a.tmps.getD 22 undef = _ := hd ⟨3, .data⟩ (by simp) rfl
            go_simp
            exact Below.refl _ _
          case inr.inr.inr.inr.inr.inr.inr.inr.inr.inr.inr.inr.inl =>
            cases ho
            have e11 : a.tmps.getD 30 undef = _ := hd ⟨11, .data⟩ (by simp) rfl
            go_simp
            exact Below.refl _ _
          case inr.inr.inr.inr.inr.inl =>
            cases ho
            have e4 : a.tmps.getD 23 undef = _ := hd ⟨4, .data⟩ (by simp) rfl
            clear hy
            go_simp
            refine (H1.out _).mono ?_
            rintro e w1 ⟨rfl, rfl⟩
            exact ⟨rfl, Below.refl _ _⟩
          case inr.inr.inr.inr.inr.inr.inl =>
            cases ho
            obtain ⟨b, hb0, e0, hb⟩ := hd ⟨0, .data⟩ (by simp) rfl
            change a.tmps.getD 19 undef = _ at e0
            have e5 : a.tmps.getD 24 undef = _ := hd ⟨5, .data⟩ (by simp) rfl
            go_simp
            exact ⟨_, rfl, Below.refl _ _, _, rfl, hb⟩
          case inr.inr.inr.inr.inr.inr.inr.inr.inr.inr.inr.inr.inr.inr.inr.inl =>
            cases ho
            obtain ⟨b, hb0, e0, hb⟩ := hd ⟨8, .data⟩ (by simp) rfl
            change a.tmps.getD 27 undef = _ at e0
            have e14 : a.tmps.getD 33 undef = _ := hd ⟨14, .data⟩ (by simp) rfl
            go_simp
            exact ⟨_, rfl, Below.refl _ _, _, rfl, hb⟩
          case inr.inr.inr.inr.inr.inr.inr.inl =>
            cases ho
            obtain ⟨b, e0, hb⟩ := hd ⟨6, .data⟩ (by simp) rfl
            change a.tmps.getD 25 undef = _ at e0
            have hc : w.cell? ⟨b, p8, none⟩ = some (.string k8) := by rw [blk_cell hb]; exact hk8
            go_simp
            exact Below.refl _ _
          case inr.inr.inr.inr.inr.inr.inr.inr.inr.inr.inr.inr.inr.inr.inr.inr.inl =>
            cases ho
            obtain ⟨b, e0, hb⟩ := hd ⟨15, .data⟩ (by simp) rfl
            change a.tmps.getD 34 undef = _ at e0
            have hc : w.cell? ⟨b, p4, none⟩ = some (.string v4) := by rw [blk_cell hb]; exact hk4
            go_simp
            exact Below.refl _ _
          case inr.inr.inr.inr.inr.inr.inr.inr.inl =>
            cases ho
            go_simp
            exact ⟨_, rfl, below_alloc (Below.refl _ _) _, _, hBs, rfl, blk_new w _⟩
          case inr.inr.inr.inr.inr.inr.inr.inr.inr.inr.inr.inr.inr.inl =>
            cases ho
            have e12 : a.tmps.getD 31 undef = _ := hd ⟨12, .data⟩ (by simp) rfl
            go_simp
            exact Below.refl _ _
          case inr.inr.inr.inr.inr.inr.inr.inr.inr.inr.inr.inr.inr.inr.inl =>
            cases ho
            have e13 : a.tmps.getD 32 undef = _ := hd ⟨13, .data⟩ (by simp) rfl
            clear hy
            go_simp
            refine (H2' _).mono ?_
            rintro e w1 ⟨rfl, rfl⟩
            exact ⟨rfl, Below.refl _ _⟩
          case inr.inr.inr.inr.inr.inr.inr.inr.inr.inr.inr.inr.inr.inr.inr.inr.inr.inl =>
            cases ho
            have e7 : a.tmps.getD 26 undef = _ := hd ⟨7, .data⟩ (by simp) rfl
            have e16 : a.tmps.getD 35 undef = _ := hd ⟨16, .data⟩ (by simp) rfl
            rw [Array.getD_eq_getD_getElem?] at e7 e16
            go_simp
            exact Below.refl _ _
          case inr.inr.inr.inr.inr.inr.inr.inr.inr.inr.inr.inr.inr.inr.inr.inr.inr.inr =>
            cases ho
            go_simp
            exact ⟨_, rfl, below_alloc (Below.refl _ _) _, _, hBs, rfl, _, _, blk_new w _⟩
        · intro o vs w2 ho hB hd
          cases ho
          obtain ⟨b, c0, c1, hb1, hv, hb2⟩ := hd 18 (by omega)
          have h17 : vs 17 = .agg #[.string k8, .string v4] := hd 17 (by omega)
          generalize hL : layF _ 19 _ vs = L
          obtain rfl : L = [.slice (some ad) l.length c, .int .i64 n, undef, undef, .slice none 0 0, u5, .int .i64 i, vs 18, .int .i64 i, .slice (some ad) l.length c, .int .i64 l.length, .bool true, .bool true, .int .i64 i, .int .i64 n, .bool true, .bool true, u17, u18, vs 0, vs 1, vs 2, vs 3, vs 4, vs 5, vs 6, vs 7, vs 8, vs 9, vs 10, vs 11, vs 12, vs 13, vs 14, vs 15, vs 16, vs 17, u37, u38, u39, u40, undef] := by rw [← hL]; kernel_rfl
          clear hL
          rw [hv, h17]
          have f0 : w2.frozen? ⟨b, 0, none⟩ = false := blk_frozen hb2 0
          have f1 : w2.frozen? ⟨b, 1, none⟩ = false := blk_frozen hb2 1
          have z0 : w2.cell? ⟨b, 0, none⟩ = some c0 := by rw [blk_cell hb2]; rfl
          have z1 : w2.cell? ⟨b, 1, none⟩ = some c1 := by rw [blk_cell hb2]; rfl
          have hB1 : Below wr.heap.size wr ((w2.setCell ⟨b, 0, none⟩ (.string k8)).setCell ⟨b, 1, none⟩ (.string v4)) := below_set (below_set hB hb1) hb1
          have hb3 : ((w2.setCell ⟨b, 0, none⟩ (.string k8)).setCell ⟨b, 1, none⟩ (.string v4)).heap[b]? = some (.cells #[.string k8, .string v4] 69 (0, 0)) := by rw [heap_set1 (heap_set1 hb2)]; rfl
          clear hd hb2 hv h17 hk8 hk4
          go_simp
          clear f0 f1 z0 z1 hB
          generalize (w2.setCell ⟨b, 0, none⟩ (.string k8)).setCell ⟨b, 1, none⟩ (.string v4) = w3 at hB1 hb3 ⊢
          have z0 : w3.cell? ⟨b, 0, none⟩ = some (.string k8) := by rw [blk_cell hb3]; rfl
          have z1 : w3.cell? ⟨b, 1, none⟩ = some (.string v4) := by rw [blk_cell hb3]; rfl
          have HO1 := Aside0.mk (Kd.R_below HO.out hB1)
          have HB1 := Aside0.mk (below_step HB.out hB1)
          clear hB1 hb3 hw8
          go_wp2_with ((with_reducible refine gate_builtin (b := .append) (xs := #[.tmp 37, .tmp 39]) rfl ?_); at_builtin; refine Kd.R_append k69 (w0 := w) w.heap.size rfl (.tmp 37) (.tmp 39) 24 69 (.agg #[(.string ⟨#[]⟩), (.string ⟨#[]⟩)]) 32 rfl Try.underlying24 info69 rfl (by decide) (by omega) u5 cs (⟨k8, v4⟩ : S69) [.string k8, .string v4] (fun _ => True) (fun _ => False) rfl rfl (k69_mkM _ _ _ ⟨k8, v4⟩) (fun _ hk => hk.elim) (fun _ _ => trivial) HO1.out HB1.out (below_size HB1.out) (by have := hcl.out; omega) ?_; intro v5 w4 ho hb hg hat; obtain ⟨A5, c5, rfl⟩ := Kd.R_slice ho; rw [List.length_append, List.length_singleton] at ho; have HO4 := Aside0.mk ho; have HB4 := Aside0.mk hb; clear ho hb hg hat)
          go_roundw
          case rel => exact ⟨i + 1, cs ++ [⟨k8, v4⟩], by simp, ⟨by omega, by omega⟩, ⟨by rw [List.length_append, List.length_singleton, hcl.out]⟩, ⟨fun r hr => (List.mem_append.1 hr).elim (hsm.out r) (fun h => by rw [List.mem_singleton.1 h]; exact hkz)⟩, HO4, HB4⟩
          case measure => simp [intOf]; omega
      · go_wp2
        go_ret
        exact ⟨_, cs, rfl, HO.out, by have := hcl.out; omega, hsm.out, HB.out⟩
    · go_wp2
      go_ret
      exact ⟨_, cs, rfl, HO.out, by have := hcl.out; omega, hsm.out, HB.out⟩
end Go.Proofs.Ytnjidfgjldkkcaa.Q
/- bagnallkeep.Acts, walked: some acts, as many as are asked; their keys are short. -/
namespace Go.Proofs.Ytnjidfgjldkkcaa.Q
open Go.RowKit Go.Proofs.YtnjidfgjldkkcaaW.PrintWords Go.Proofs.YtnjidfgjldkkcaaW.PrintLast Go.Proofs.YtnjidfgjldkkcaaW.PrintMore Go.Proofs.Ytnjidfgjldkkcaa.Plain
/-- Behind the switch: some act stands in the variable. -/
def ActCut (w wr : World) (v8 : Value) (wc : World) : Prop :=
  ∃ (a : S67) (b c : Nat) (A : Option Addr), v8 = .pointer (some ⟨b, 0, none⟩) ∧ wr.heap.size ≤ b ∧ a.f2.size ≤ 2 ∧ wc.heap[b]? = some (.cells #[.int .i64 a.f0, .slice A a.f1.length c, .string a.f2, .int .i64 a.f3] 67 (0, 0)) ∧ k69.R 69 wc w.heap.size (fun q => wr.heap.size ≤ q) (.slice A a.f1.length c) a.f1 ∧ Below wr.heap.size wr wc
theorem ActCut.set4 {w wr w4 : World} {b8 : Nat} {v0 v1 v2 v3 : Value} (h8 : w4.heap[b8]? = some (.cells #[v0, v1, v2, v3] 67 (0, 0))) (hb : wr.heap.size ≤ b8) (HB : Below wr.heap.size wr w4) (k : Int) (key : ByteArray) (hk : key.size ≤ 2) :
    ActCut w wr (.pointer (some ⟨b8, 0, none⟩)) ((((w4.setCell ⟨b8, 0, none⟩ (.int .i64 k)).setCell ⟨b8, 1, none⟩ (.slice none 0 0)).setCell ⟨b8, 2, none⟩ (.string key)).setCell ⟨b8, 3, none⟩ (.int .i64 0)) := by
  refine ⟨⟨k, [], key, 0⟩, b8, 0, none, rfl, hb, hk, ?_, Kd.R_nil _ _ _ _ _, below_set (below_set (below_set (below_set HB hb) hb) hb) hb⟩
  rw [heap_set1 (heap_set1 (heap_set1 (heap_set1 h8)))]
  rfl
theorem ActCut.alloc {w wr wc : World} {v : Value} (h : ActCut w wr v wc) (o : Obj) : ActCut w wr v (wc.alloc o) := by
  obtain ⟨a, b, c, A, h1, h2, h3, h4, h5, h6⟩ := h
  exact ⟨a, b, c, A, h1, h2, h3, ((below_alloc (Below.refl _ _) o).block _ (blk_lt h4)).trans h4, Kd.R_alloc h5 o, below_alloc h6 o⟩
theorem C_one {α : Type} {d : Kd α} {w : World} {ad : Addr} {x : α} {cs : List Value} (hK : d.K w x cs) (hc : ∀ (i : Nat) u, cs[i]? = some u → w.cell? (ad.add i) = some u) : d.C w (some ad) 1 [x] := by
  refine ⟨rfl, by omega, fun _ => ⟨ad, rfl, fun j p hp => ?_⟩⟩
  obtain rfl : j = 0 := by
    cases j with
    | zero => rfl
    | succ j => simp at hp
  obtain rfl : x = p := by simpa using hp
  exact ⟨cs, d.K_len hK, hK, fun i u h => by rw [Nat.zero_mul, Nat.zero_add]; exact hc i u h⟩
set_option maxRecDepth 100000 in
set_option maxHeartbeats 16000000 in
theorem acts_walk (A : Option Addr) (c : Nat) (l : List S100) (n : Nat) (w : World) (hr : Kd.C k100 w A l.length l) (hc : l.length ≤ c) (hn : n ≤ 40) :
    Calls Try.prog 40 #[.slice A l.length c, .int .i64 (n : Int)] w fun e w' => ∃ v la, e = .returned v ∧ k67.R 67 w' w.heap.size (fun _ => True) v la ∧ la.length = min l.length n ∧ (∀ a ∈ la, a.f2.size ≤ 2) ∧ Below w.heap.size w w' := by
  have HR := Aside0.mk hr
  have HC := Aside0.mk hc
  clear hr hc
  go_enter Try.func40, Try.ntmps40
  go_wp2
  go_loopw [5, 6] (fun v5 v6 wr => ∃ (i : Nat) (out : List S67), v6 = .int .i64 i ∧ Aside0 (i ≤ l.length ∧ i ≤ n) ∧ Aside0 (out.length = i) ∧ Aside0 (∀ r ∈ out, r.f2.size ≤ 2) ∧ Aside0 (k67.R 67 wr w.heap.size (fun _ => True) v5 out) ∧ Aside0 (Below w.heap.size w wr)) (fun _ v6 _ => n - (intOf v6).toNat)
  case atStart => exact ⟨0, [], rfl, ⟨Nat.zero_le _, Nat.zero_le _⟩, ⟨rfl⟩, ⟨by simp⟩, ⟨Kd.R_nil _ _ _ _ _⟩, ⟨Below.refl _ _⟩⟩
  case round =>
    obtain ⟨i, out, rfl, hi, hcl, hsm, HO, HB⟩ := hrel
    have hi1 := hi.out.1
    have hi2 := hi.out.2
    by_cases hlt : i < l.length
    · by_cases hln : i < n
      · obtain ⟨ad, A1, c1, rfl, x0, x1, x2, l1, g1⟩ := at_T100 (Kd.C_below HR.out HB.out) (i : Int) (by omega) (by omega)
        rw [Int.toNat_natCast] at x0 x1 x2
        obtain ⟨m, hm⟩ : ∃ m, m = rd_T100 l (i : Int) := ⟨_, rfl⟩
        rw [← hm] at x0 x1 x2 l1 g1
        clear hm
        obtain ⟨k, ms, N⟩ := m
        simp only at x0 x1 x2 l1 g1
        have hb1 : Below wr.heap.size wr (wr.alloc (.cells #[.int .i64 k, .slice A1 ms.length c1, .int .i64 N] 100)) := below_alloc (Below.refl _ _) _
        have H1 := Aside0.mk (changes_walk A1 c1 ms 3 (wr.alloc (.cells #[.int .i64 k, .slice A1 ms.length c1, .int .i64 N] 100)) (Kd.C_below g1 hb1) l1 (by omega))
        have P9 : Aside0 (∀ W, Calls Try.prog 64 #[.int .i64 k, .int .i64 9] W fun e w' => e = .returned (.int .i64 ((pickF k 9 : Nat) : Int)) ∧ W = w') := ⟨fun W => picked_walk k 9 W (by omega) (by omega)⟩
        clear g1 l1
        go_upto_block 2 with (first | (go_at_call 63; refine H1.out.mono ?_; rintro e w1 ⟨v1, cs, rfl, ho, hl1, -, hb⟩; have hl3 : cs.length ≤ 3 := (by omega); clear hl1; obtain ⟨A2, c2, rfl⟩ := Kd.R_slice ho; have HO1 := Aside0.mk ho; have HB1 := Aside0.mk (below_step hb1 hb); have y0 : w1.heap[wr.heap.size]? = some (.cells #[.int .i64 k, .slice A1 ms.length c1, .int .i64 N] 100 (0, 0)) := (hb.block _ (by simp)).trans (blk_new wr _); clear ho hb) | ((with_reducible refine gate_builtin (b := .append) (xs := #[.tmp 26, .tmp 28]) rfl ?_); at_builtin; refine Kd.R_append k69 (w0 := wr) wr.heap.size rfl (.tmp 26) (.tmp 28) 24 69 (.agg #[(.string ⟨#[]⟩), (.string ⟨#[]⟩)]) 32 rfl Try.underlying24 info69 rfl (by decide) (by omega) _ cs (⟨⟨#[116]⟩, ⟨#[118]⟩⟩ : S69) [.string ⟨#[116]⟩, .string ⟨#[118]⟩] (fun _ => True) (fun _ => False) rfl rfl (k69_mkM _ _ _ ⟨⟨#[116]⟩, ⟨#[118]⟩⟩) (fun _ hk => hk.elim) (fun _ _ => trivial) (Kd.R_lower HO1.out (by simp)) HB1.out (below_size HB1.out) (by omega) ?_; intro v3 w3 ho hb hg hat; obtain ⟨A3, c3, rfl⟩ := Kd.R_slice ho; have HO3 := Aside0.mk ho; have HB3 := Aside0.mk hb; have y3 : w3.heap[wr.heap.size]? = some (.cells #[.int .i64 k, .slice A1 ms.length c1, .int .i64 N] 100 (0, 0)) := (ModT.grown (T := [69]) hg HO1.out (by simp) (Nat.le_refl _)).keep y0 (by simp); have z0 : w3.cell? ⟨wr.heap.size, 0, none⟩ = some (.int .i64 k) := (by rw [blk_cell y3]; rfl); have hz3 : wr.heap.size < w3.heap.size := blk_lt y3; have Y3 := Aside0.mk y3; clear ho hb hg hat y3 y0) | (go_at_call 64; with_reducible refine (P9.out _).mono ?_; rintro e w9 ⟨rfl, rfl⟩))
        go_cut [8, 33] (fun v8 _ wc => Aside0 (ActCut w wr v8 wc))
        case first =>
          have h8 := blk_new w3 (.cells #[.int .i64 1, .slice A3 (cs.length + 1) c3, .string ⟨#[]⟩, .int .i64 0] 67)
          have h7 : (w3.alloc (.cells #[.int .i64 1, .slice A3 (cs.length + 1) c3, .string ⟨#[]⟩, .int .i64 0] 67)).heap[wr.heap.size]? = some (.cells #[.int .i64 k, .slice A1 ms.length c1, .int .i64 N] 100 (0, 0)) := ((below_alloc (Below.refl _ _) _).block _ hz3).trans Y3.out
          have HBW : Aside0 (Below wr.heap.size wr (w3.alloc (.cells #[.int .i64 1, .slice A3 (cs.length + 1) c3, .string ⟨#[]⟩, .int .i64 0] 67))) := ⟨below_alloc HB3.out _⟩
          have HRW : Aside0 (k69.R 69 (w3.alloc (.cells #[.int .i64 1, .slice A3 (cs.length + 1) c3, .string ⟨#[]⟩, .int .i64 0] 67)) w.heap.size (fun q => wr.heap.size ≤ q) (.slice A3 (cs.length + 1) c3) (cs ++ [⟨⟨#[116]⟩, ⟨#[118]⟩⟩])) := ⟨by have := Kd.R_alloc (Kd.R_mono (Kd.R_lower (Kd.R_bound HO3.out) HB.out.size) (ok' := fun q => wr.heap.size ≤ q) (fun q hq => hq.2.1)) (.cells #[.int .i64 1, .slice A3 (cs.length + 1) c3, .string ⟨#[]⟩, .int .i64 0] 67); rwa [List.length_append, List.length_singleton] at this⟩
          have h83 : wr.heap.size < w3.heap.size := hz3
          clear HB3 HO3 Y3 hz3 z0 HO1 HB1
          generalize w3.alloc (.cells #[.int .i64 1, .slice A3 (cs.length + 1) c3, .string ⟨#[]⟩, .int .i64 0] 67) = w4 at h8 h7 HBW HRW ⊢
          generalize w3.heap.size = b8 at h8 h83 ⊢
          have z7 : w4.cell? ⟨wr.heap.size, 2, none⟩ = some (.int .i64 N) := by rw [blk_cell h7]; rfl
          have z80 : w4.cell? ⟨b8, 0, none⟩ = some (.int .i64 1) := by rw [blk_cell h8]; rfl
          have z81 : w4.cell? ⟨b8, 1, none⟩ = some (.slice A3 (cs.length + 1) c3) := by rw [blk_cell h8]; rfl
          have z82 : w4.cell? ⟨b8, 2, none⟩ = some (.string ⟨#[]⟩) := by rw [blk_cell h8]; rfl
          have z83 : w4.cell? ⟨b8, 3, none⟩ = some (.int .i64 0) := by rw [blk_cell h8]; rfl
          have f80 := blk_frozen h8 0
          have f81 := blk_frozen h8 1
          have f82 := blk_frozen h8 2
          have f83 := blk_frozen h8 3
          have hz7 : wr.heap.size < w4.heap.size := blk_lt h7
          have hz8 : b8 < w4.heap.size := blk_lt h8
          have H8 := Aside0.mk h8
          clear h8 h7
          have hp9 := pickF_lt k 9 (by omega)
          generalize pickF k 9 = p at hp9 ⊢
          by_cases p4 : p = 4
          · subst p4
            have hb5 : Below w4.heap.size w4 (w4.alloc (.cells #[.int .i64 N] 3)) := below_alloc (Below.refl _ _) _
            have H4 := Aside0.mk (changes_walk (some ⟨w4.heap.size, 0, none⟩) 1 [N] 1 (w4.alloc (.cells #[.int .i64 N] 3)) (C_one (d := Kd.int .i64) (cs := [.int .i64 N]) rfl (fun i u h => by
              have e : (⟨w4.heap.size, 0, none⟩ : Addr).add i = ⟨w4.heap.size, i, none⟩ := by simp [Addr.add]; exact Eq.symm
              rw [e, blk_cell (blk_new w4 _)]
              cases i with
              | zero => exact h
              | succ i => simp at h)) (Nat.le_refl _) (by omega))
            go_wp2_with (go_at_call 63; refine H4.out.mono ?_; rintro e w5 ⟨v1, rs, rfl, ho, hl1, hsm1, hb⟩; obtain ⟨r, rfl⟩ : ∃ r, rs = [r] := (List.length_eq_one_iff.1 (by rw [hl1]; rfl)); obtain ⟨g, cap, rfl, -, -, -⟩ := Kd.R_form ho (by simp); obtain ⟨ad5, he5, x5, -⟩ := at_T69 (Kd.R_reads' ho).2.2 0 (by omega) (by simp); obtain rfl := Option.some.inj he5; have x5' : w5.cell? ⟨g, 0, none⟩ = some (.string r.f0) := x5; have hr2 : r.f0.size ≤ 2 := hsm1 r List.mem_cons_self; have hb6 := below_step (below_alloc (Below.refl _ _) _) hb; have z80' := (hb6.cell hz8).trans z80; have z81' := (hb6.cell hz8).trans z81; have z82' := (hb6.cell hz8).trans z82; have z83' := (hb6.cell hz8).trans z83; have f80' := (hb6.frozen hz8).trans f80; have f81' := (hb6.frozen hz8).trans f81; have f82' := (hb6.frozen hz8).trans f82; have f83' := (hb6.frozen hz8).trans f83; have H85 := Aside0.mk ((hb6.block _ hz8).trans H8.out); have HBW5 := Aside0.mk (below_step HBW.out hb6); clear ho hl1 hsm1 hb hb6 x5 z80 z81 z82 z83 f80 f81 f82 f83)
            go_meet
            case rel => exact ⟨ActCut.set4 H85.out (by omega) HBW5.out 2 r.f0 hr2⟩
          by_cases p5 : p = 5
          · subst p5
            have P3 : Aside0 (∀ W, Calls Try.prog 64 #[.int .i64 N, .int .i64 3] W fun e w' => e = .returned (.int .i64 ((pickF N 3 : Nat) : Int)) ∧ W = w') := ⟨fun W => picked_walk N 3 W (by omega) (by omega)⟩
            have hp3 := pickF_lt N 3 (by omega)
            generalize pickF N 3 = p3 at hp3 P3
            have hp3i : (p3 : Int) < 3 := by omega
            obtain ⟨k3, hk3, hkz⟩ : ∃ k3 : ByteArray, (#[Value.string ⟨#[]⟩, .string ⟨#[97]⟩, .string ⟨#[107]⟩] : Array Value)[p3]? = some (.string k3) ∧ k3.size ≤ 2 := by
              match p3, hp3 with
              | 0, _ => exact ⟨_, rfl, by decide⟩
              | 1, _ => exact ⟨_, rfl, by decide⟩
              | 2, _ => exact ⟨_, rfl, by decide⟩
            have hb5 : Below w4.heap.size w4 (w4.alloc (.cells #[Value.string ⟨#[]⟩, .string ⟨#[97]⟩, .string ⟨#[107]⟩] 9)) := below_alloc (Below.refl _ _) _
            have c3' : (w4.alloc (.cells #[Value.string ⟨#[]⟩, .string ⟨#[97]⟩, .string ⟨#[107]⟩] 9)).cell? ⟨w4.heap.size, p3, none⟩ = some (.string k3) := by rw [blk_cell (blk_new w4 _)]; exact hk3
            go_wp2_with (go_at_call 64; with_reducible refine (P3.out _).mono ?_; rintro e w9 ⟨rfl, rfl⟩)
            go_meet
            case rel => exact ⟨(ActCut.set4 H8.out (by omega) HBW.out 3 k3 hkz).alloc _⟩
          by_cases p6 : p = 6
          · subst p6
            go_wp2
            go_meet
            case rel => exact ⟨ActCut.set4 H8.out (by omega) HBW.out 4 ⟨#[]⟩ (Nat.zero_le _)⟩
          by_cases p7 : p = 7 ∨ p = 8
          · have P40 : Aside0 (∀ W, Calls Try.prog 64 #[.int .i64 N, .int .i64 40] W fun e w' => e = .returned (.int .i64 ((pickF N 40 : Nat) : Int)) ∧ W = w') := ⟨fun W => picked_walk N 40 W (by omega) (by omega)⟩
            have hp40 := pickF_lt N 40 (by omega)
            generalize pickF N 40 = pn at hp40 P40
            rcases p7 with rfl | rfl
            all_goals
              go_wp2_with (go_at_call 64; with_reducible refine (P40.out _).mono ?_; rintro e w9 ⟨rfl, rfl⟩)
              go_meet
              case rel => exact ⟨⟨5, cs ++ [⟨⟨#[116]⟩, ⟨#[118]⟩⟩], ⟨#[]⟩, (pn : Int)⟩, b8, c3, A3, rfl, by omega, Nat.zero_le _, by rw [List.length_append, List.length_singleton, heap_set1 (heap_set1 H8.out)]; rfl, by rw [List.length_append, List.length_singleton]; exact Kd.R_set (Kd.R_set HRW.out H8.out (by intro q hq; have : q = 69 := (by simpa [k69, Kd.iso, Kd.pair, Kd.string, Kd.scalar] using hq); omega) _ _) (heap_set1 H8.out) (by intro q hq; have : q = 69 := (by simpa [k69, Kd.iso, Kd.pair, Kd.string, Kd.scalar] using hq); omega) _ _, below_set (below_set HBW.out (by omega)) (by omega)⟩
          have n4 : ¬ (p : Int) = 4 := by omega
          have n5 : ¬ (p : Int) = 5 := by omega
          have n6 : ¬ (p : Int) = 6 := by omega
          have n7 : ¬ (p : Int) = 7 := by omega
          have n8 : ¬ (p : Int) = 8 := by omega
          go_wp2
          go_meet
          case rel => exact ⟨⟨1, cs ++ [⟨⟨#[116]⟩, ⟨#[118]⟩⟩], ⟨#[]⟩, 0⟩, b8, c3, A3, rfl, by omega, Nat.zero_le _, by rw [List.length_append, List.length_singleton]; exact H8.out, by rw [List.length_append, List.length_singleton]; exact HRW.out, HBW.out⟩
        case rest =>
          obtain ⟨a, b, c4, A4, rfl, hbb, ha2, hb4, ho4, hbw⟩ := hcut.out
          have z0 : wc.cell? ⟨b, 0, none⟩ = some (.int .i64 a.f0) := by rw [blk_cell hb4]; rfl
          have z1 : wc.cell? ⟨b, 1, none⟩ = some (.slice A4 a.f1.length c4) := by rw [blk_cell hb4]; rfl
          have z2 : wc.cell? ⟨b, 2, none⟩ = some (.string a.f2) := by rw [blk_cell hb4]; rfl
          have z3 : wc.cell? ⟨b, 3, none⟩ = some (.int .i64 a.f3) := by rw [blk_cell hb4]; rfl
          have hap : Aside0 (∀ q, wr.heap.size ≤ q → True ∧ some q ≠ u5.ownBlock) := ⟨fun q hq => ⟨trivial, fun he => (by have := Kd.R_lt HO.out q he.symm; omega)⟩⟩
          have HO5 := Aside0.mk (Kd.R_below HO.out hbw)
          have HB5 := Aside0.mk (below_step HB.out hbw)
          have HRW := Aside0.mk ho4
          clear ho4 hbw hb4
          go_wp2_with ((with_reducible refine gate_builtin (b := .append) (xs := #[.tmp 64, .tmp 66]) rfl ?_); at_builtin; refine Kd.R_append k67 (w0 := w) w.heap.size rfl (.tmp 64) (.tmp 66) 57 67 _ 56 rfl Try.underlying57 info67 rfl (by decide) (by omega) u5 out a [.int .i64 a.f0, .slice A4 a.f1.length c4, .string a.f2, .int .i64 a.f3] (fun _ => True) (fun q => wr.heap.size ≤ q) rfl rfl (k67_mkM _ _ _ a HRW.out) hap.out (fun _ _ => trivial) HO5.out HB5.out (below_size HB5.out) (by have := hcl.out; omega) ?_; intro v4 w4 ho hb hg hat; obtain ⟨A5, c5, rfl⟩ := Kd.R_slice ho; rw [List.length_append, List.length_singleton] at ho; have HO4 := Aside0.mk ho; have HB4 := Aside0.mk hb; clear ho hb hg hat)
          go_roundw
          case rel => exact ⟨i + 1, out ++ [a], by simp, ⟨by omega, by omega⟩, ⟨by rw [List.length_append, List.length_singleton, hcl.out]⟩, ⟨fun r hr => (List.mem_append.1 hr).elim (hsm.out r) (fun h => by rw [List.mem_singleton.1 h]; exact ha2)⟩, HO4, HB4⟩
          case measure => simp [intOf]; omega
      · go_wp2
        go_ret
        exact ⟨_, out, rfl, HO.out, by have := hcl.out; omega, hsm.out, HB.out⟩
    · go_wp2
      go_ret
      exact ⟨_, out, rfl, HO.out, by have := hcl.out; omega, hsm.out, HB.out⟩
end Go.Proofs.Ytnjidfgjldkkcaa.Q
/- store.record, walked. -/
namespace Go.Proofs.Ytnjidfgjldkkcaa.Q
open Go.RowKit Go.Proofs.YtnjidfgjldkkcaaW.PrintWords Go.Proofs.YtnjidfgjldkkcaaW.PrintLast Go.Proofs.YtnjidfgjldkkcaaW.PrintMore
section
variable {P : Program} {ops : Array Oper} {rest : List Oper} {o : Oper} {a : Act} {Q : Exit → Act → World → Prop} {Kc : Act → World → Prop}
theorem append_str_run {W : World} (base : Nat) (t u ty e : TypeId) (ht : P.underlying t = some (.slice e)) (hu : P.underlying u = some .string) (hinfo : (P.info? e).map (fun i => (i.zero, i.size, i.bytes)) = some (some (.int .u8 0), 1, 1))
    (v : Value) (xs : List Int) (y : ByteArray) (HO : (Kd.int .u8).R e W base (fun _ => True) v xs) (hbase : base ≤ W.heap.size) (hl : xs.length + y.size ≤ 140737488355328) :
    ∃ v1 w1, (Builtin.append_ #[t, u] ty #[v, .string y]).run P W = .ok v1 w1 ∧ (Kd.int .u8).R e w1 base (fun _ => True) v1 (xs ++ bytesOf y) ∧ W.grownBy w1 v.ownBlock := by
  obtain ⟨i0, hi, hzz⟩ := Option.map_eq_some_iff.1 hinfo
  simp only [Prod.mk.injEq] at hzz
  obtain ⟨hz0, hz1, hz2⟩ := hzz
  obtain ⟨v1, w1, hr, hown, hg, _⟩ := Lib.run_append_own_string (P := P) (w := W) base t u ty e i0 ht hu hi hz0 hz1 hz2 v xs.length (nums .u8 xs) (Kd.own_of_R HO) y (by simp only [maxLen]; omega) hl hbase
  have hl2 : (xs ++ bytesOf y).length = xs.length + y.size := by rw [List.length_append, bytesOf_length]
  have hc : nums .u8 (xs ++ bytesOf y) = nums .u8 xs ++ Lib.strCells y := by
    rw [nums_append]
    congr 1
    simp [nums, bytesOf, Lib.strCells]
  exact ⟨v1, w1, hr, Kd.R_of_own (h1 := fun _ => rfl) (ok := fun _ => True) (by rw [hl2]; show w1.ownsRow base e 1 v1 _ (nums .u8 (xs ++ bytesOf y)); rw [hc]; exact hown) (fun _ _ => trivial), hg⟩
theorem R_append_str_step {w0 W : World} (base : Nat) (hw : Region.wanted o (yielded ops a.tmps) = true) (s x : Operand) (t u e : TypeId)
    (ho : o.op = .call { callee := .builtin .append, args := #[s, x], argTypes := #[t, u] })
    (ht : P.underlying t = some (.slice e)) (hu : P.underlying u = some .string) (hinfo : (P.info? e).map (fun i => (i.zero, i.size, i.bytes)) = some (some (.int .u8 0), 1, 1))
    (v : Value) (xs : List Int) (y : ByteArray) (hs : a.eval s = v) (hx : a.eval x = .string y)
    (HO : (Kd.int .u8).R e W base (fun _ => True) v xs) (HB : Below base w0 W) (hbase : base ≤ W.heap.size) (hl : xs.length + y.size ≤ 140737488355328)
    (h : ∀ v1 w1, (Kd.int .u8).R e w1 base (fun _ => True) v1 (xs ++ bytesOf y) → Below base w0 w1 → Kc (a.put o.dst v1) w1) :
    if Region.wanted o (yielded ops a.tmps) = true then Oper.wp P o a W Kc Q else Kc (a.put o.dst undef) W := by
  obtain ⟨v1, w1, hr, h1, hg⟩ := append_str_run (P := P) base t u o.type e ht hu hinfo v xs y HO hbase hl
  rw [if_pos hw]
  unfold Oper.wp execOp
  simp only [ho, resolve, invoke, builtin, Sem.run_bind, Sem.run_pure, Result.andThen_ok, List.map_toArray, List.map_cons, List.map_nil, hs, hx, hr]
  exact h v1 w1 h1 (HB.grown hg hbase (Kd.R_base HO))
theorem R_append_str {w0 W : World} (base : Nat) (hw : Region.wanted o (yielded ops a.tmps) = true) (s x : Operand) (t u e : TypeId)
    (ho : o.op = .call { callee := .builtin .append, args := #[s, x], argTypes := #[t, u] })
    (ht : P.underlying t = some (.slice e)) (hu : P.underlying u = some .string) (hinfo : (P.info? e).map (fun i => (i.zero, i.size, i.bytes)) = some (some (.int .u8 0), 1, 1))
    (v : Value) (xs : List Int) (y : ByteArray) (hs : a.eval s = v) (hx : a.eval x = .string y)
    (HO : (Kd.int .u8).R e W base (fun _ => True) v xs) (HB : Below base w0 W) (hbase : base ≤ W.heap.size) (hl : xs.length + y.size ≤ 140737488355328)
    (h : ∀ v1 w1, (Kd.int .u8).R e w1 base (fun _ => True) v1 (xs ++ bytesOf y) → Below base w0 w1 → wpList P ops Q rest (a.put o.dst v1) w1) :
    wpList P ops Q (o :: rest) a W :=
  wpList_step fun _ hK => R_append_str_step base hw s x t u e ho ht hu hinfo v xs y hs hx HO HB hbase hl (fun v1 w1 h1 h2 => hK _ _ (h v1 w1 h1 h2))
end
theorem lit_R (W : World) (base : Nat) (z : Int) (h : base ≤ W.heap.size) : (Kd.int .u8).R 5 (W.alloc (.cells #[.int .u8 z] 5)) base (fun _ => True) (.slice (some ⟨W.heap.size, 0, none⟩) 1 1) [z] :=
  Kd.R_of_own (h1 := fun _ => rfl) (ok := fun _ => True) (own_lit W base 5 .u8 [z] h (by simp)) (fun _ _ => trivial)
def recordF (r : S69) : List Int := (r.f0.size : Int) :: (bytesOf r.f0 ++ bytesOf r.f1)
set_option maxRecDepth 100000 in
set_option maxHeartbeats 8000000 in
theorem record_walk (k u : ByteArray) (w : World) (hk : k.size ≤ 20) (hu : u.size ≤ 20) :
    Calls Try.prog 95 #[.agg #[.string k, .string u]] w fun e w' => ∃ v, e = .returned v ∧ (Kd.int .u8).R 5 w' w.heap.size (fun _ => True) v (recordF ⟨k, u⟩) ∧ Below w.heap.size w w' := by
  obtain ⟨W0, hW0⟩ : ∃ W0, W0 = w.alloc (.cells #[.string k, .string u] 69) := ⟨_, rfl⟩
  have HB0 : Aside0 (Below w.heap.size w W0) := ⟨hW0 ▸ below_alloc (Below.refl _ _) _⟩
  have hh0 : W0.heap[w.heap.size]? = some (.cells #[.string k, .string u] 69 (0, 0)) := hW0 ▸ blk_new w _
  have hlt : w.heap.size < W0.heap.size := blk_lt hh0
  have hne : ¬ w.heap.size = W0.heap.size := by omega
  have z0 : W0.cell? ⟨w.heap.size, 0, none⟩ = some (.string k) := by rw [blk_cell hh0]; rfl
  have z1 : W0.cell? ⟨w.heap.size, 1, none⟩ = some (.string u) := by rw [blk_cell hh0]; rfl
  clear hh0
  go_enter Try.func95, Try.ntmps95
  go_wp2
  rw [← hW0]
  clear hW0
  have hwk : IntKind.u8.wrap (k.size : Int) = (k.size : Int) := by rw [IntKind.wrap_u8]; omega
  go_region_law (first | (refine R_append_str_step (w0 := W0) W0.heap.size (by simp [Region.wanted]) (.tmp 7) (.tmp 9) 36 9 5 rfl Try.underlying36 Try.underlying9 info5 (.slice (some ⟨W0.heap.size, 0, none⟩) 1 1) [(k.size : Int)] k rfl rfl (Kd.R_drew (lit_R W0 W0.heap.size _ (Nat.le_refl _))) (below_drew (below_alloc (Below.refl _ _) _)) (Nat.le_of_lt (by show W0.heap.size < (W0.heap.push _).size; simp)) (by simp; omega) ?_; intro v1 w1 ho hb; obtain ⟨A1, c1, rfl⟩ := Kd.R_slice ho; have HO1 := Aside0.mk ho; have HB1 := Aside0.mk hb; have y1 := (hb.cell (p := ⟨w.heap.size, 1, none⟩) hlt).trans z1; clear ho hb) | (refine R_append_str_step (w0 := W0) W0.heap.size (by simp [Region.wanted]) (.tmp 10) (.tmp 12) 36 9 5 rfl Try.underlying36 Try.underlying9 info5 (.slice A1 _ c1) ([(k.size : Int)] ++ bytesOf k) u rfl rfl HO1.out HB1.out HB1.out.size (by rw [List.length_append, bytesOf_length]; simp; omega) ?_; intro v2 w2 ho hb; obtain ⟨A2, c2, rfl⟩ := Kd.R_slice ho; have e2 : ([(k.size : Int)] ++ bytesOf k ++ bytesOf u).length = (bytesOf k).length + (bytesOf u).length + 1 := (by simp); rw [e2] at ho; have HO2 := Aside0.mk ho; have HB2 := Aside0.mk hb; clear ho hb))
  all_goals
    go_wp2
    go_ret
    exact ⟨_, rfl, by have := Kd.R_lower HO2.out HB0.out.size; rw [List.append_assoc] at this; exact this, below_step HB0.out HB2.out⟩
end Go.Proofs.Ytnjidfgjldkkcaa.Q
/- wal.first, wal.Read, wal.Scan, walked. -/
namespace Go.Proofs.Ytnjidfgjldkkcaa.Q
open Go.RowKit Go.Proofs.YtnjidfgjldkkcaaW.PrintWords Go.Proofs.YtnjidfgjldkkcaaW.PrintLast Go.Proofs.YtnjidfgjldkkcaaW.PrintMore
def headOk (b : List Int) : Bool := decide (2 ≤ b.length) && decide (1 ≤ rd b 0) && decide (rd b 0 ≤ 60) && decide (rd b 1 ≤ 1)
/-- The number of bytes of the head and the record. -/
def kOf (b : List Int) : Nat := 2 + (rd b 0).toNat
def sumOk (b : List Int) : Bool := decide (kOf b + 2 ≤ b.length) && ((sumsF 0 0 (b.take (kOf b))).1 % 256 == rd b (kOf b : Int) && (sumsF 0 0 (b.take (kOf b))).2 % 256 == rd b ((kOf b + 1 : Nat) : Int))
def firstF (b : List Int) : List Int × Bool × Nat := if (headOk b && sumOk b) = true then ((b.take (kOf b)).drop 2, rd b 1 == 1, kOf b + 2) else ([], false, 0)
theorem arr124 (a : Option Addr) (c : Nat) (w : World) : (Instr.arrayAt 124 (.slice a 2 c)).run Try.prog w = .ok (.pointer a) w := run_arrayAt w 124 5 2 a 2 c Try.underlying124 (Nat.le_refl _)
theorem eq124 (a b c d : Int) (w : World) : (Op.equalIn 10000 124 (.agg #[.int .u8 a, .int .u8 b]) (.agg #[.int .u8 c, .int .u8 d])).run Try.prog w = .ok (a == c && b == d) w := by
  obtain ⟨i, hi, _⟩ := Option.map_eq_some_iff.1 info5
  have hc : Try.prog.cellsOf 5 = 1 := by kernel_rfl
  rw [run_equalIn_array w 9999 _ _ Try.underlying124 hi, hc]
  have p1 : ∀ (x y : Int) (w : World), (part 5 #[.int .u8 x, .int .u8 y] 0).run Try.prog w = .ok (.int .u8 x) w := fun x y w => by simp [part, isAgg, run_underlying Try.underlying5]
  have p2 : ∀ (x y : Int) (w : World), (part 5 #[.int .u8 x, .int .u8 y] 1).run Try.prog w = .ok (.int .u8 y) w := fun x y w => by simp [part, isAgg, run_underlying Try.underlying5]
  have pe : ∀ (x y : Int) (w : World), (Op.equalIn 9999 5 (.int .u8 x) (.int .u8 y)).run Try.prog w = .ok (x == y) w := fun x y w => by
    rw [run_equalIn_int w 9998 5 .u8 .u8 _ _ Try.underlying5]
  simp only [show List.range 2 = [0, 1] from rfl, Op.eqItems, Nat.zero_mul, Nat.one_mul, Sem.run_bind, p1, pe, Result.andThen_ok]
  cases h1 : (a == c)
  · simp
  · simp only [Bool.not_true, Bool.false_eq_true, if_false, Bool.true_and]
    simp only [Sem.run_bind, p2, pe, Result.andThen_ok]
    cases h2 : (b == d) <;> simp
attribute [local go_sem] arr124 eq124
theorem wrap_k {k0 : Nat} (h : k0 ≤ 60) : IntKind.i64.wrap (2 + (k0 : Int) + 2) = 2 + (k0 : Int) + 2 := by
  rw [IntKind.wrap_i64]
  omega
set_option maxRecDepth 100000 in
set_option maxHeartbeats 4000000 in
theorem first_walk (A : Option Addr) (c : Nat) (b : List Int) (w : World) (hr : Kd.C (Kd.int .u8) w A b.length b) (hc : b.length ≤ c) (hl : b.length ≤ 1000000) :
    Calls Try.prog 74 #[.slice A b.length c] w fun e w' => ∃ A' c', e = .returned (.tuple #[.slice A' (firstF b).1.length c', .bool (firstF b).2.1, .int .i64 ((firstF b).2.2 : Int)]) ∧ (firstF b).1.length ≤ c' ∧ Kd.C (Kd.int .u8) w A' (firstF b).1.length (firstF b).1 ∧ Below w.heap.size w w' := by
  have HR := Aside0.mk hr
  have HC := Aside0.mk hc
  clear hr hc
  have none_ : ∀ (h : headOk b = false ∨ sumOk b = false), firstF b = ([], false, 0) := by
    intro h
    unfold firstF
    rw [if_neg]
    intro e
    rw [Bool.and_eq_true] at e
    rcases h with h | h <;> simp [h] at e
  have HN := Aside0.mk none_
  clear none_
  go_enter Try.func74, Try.ntmps74
  by_cases h2 : b.length < 2
  · have e := HN.out (.inl (by unfold headOk; rw [decide_eq_false (show ¬ 2 ≤ b.length by omega)]; rfl))
    replace e := Aside0.mk e
    go_wp2
    go_ret3
    rw [e.out]
    exact ⟨none, 0, rfl, Nat.le_refl _, Kd.C_nil _ _, Below.refl _ _⟩
  · obtain ⟨ad, rfl, hc0⟩ := Kd.at_int HR.out 0 (by omega) (by omega)
    obtain ⟨ad', had, hc1⟩ := Kd.at_int HR.out 1 (by omega) (by omega)
    obtain rfl := Option.some.inj had
    obtain ⟨x0, hx0⟩ : ∃ x, x = rd b 0 := ⟨_, rfl⟩
    obtain ⟨x1, hx1⟩ : ∃ x, x = rd b 1 := ⟨_, rfl⟩
    rw [← hx0] at hc0
    rw [← hx1] at hc1
    replace hx0 := Aside0.mk hx0
    replace hx1 := Aside0.mk hx1
    simp only [Int.toNat_zero, show (1 : Int).toNat = 1 from rfl] at hc0 hc1
    replace hc0 : w.cell? ad = some (.int .u8 x0) := hc0
    replace hc1 : w.cell? ⟨ad.block, ad.off + 1, none⟩ = some (.int .u8 x1) := hc1
    have hd2 : decide ((b.length : Int) < 2) = false := decide_eq_false (by omega)
    by_cases h3 : x0 < 1
    · have e := Aside0.mk (HN.out (.inl (by unfold headOk; rw [← hx0.out, decide_eq_false (show ¬ 1 ≤ x0 by omega), Bool.and_false]; rfl)))
      go_wp2
      go_ret3
      rw [e.out]
      exact ⟨none, 0, rfl, Nat.le_refl _, Kd.C_nil _ _, Below.refl _ _⟩
    by_cases h4 : 60 < x0
    · have e := Aside0.mk (HN.out (.inl (by unfold headOk; rw [← hx0.out, decide_eq_false (show ¬ x0 ≤ 60 by omega), Bool.and_false]; rfl)))
      go_wp2
      go_ret3
      rw [e.out]
      exact ⟨none, 0, rfl, Nat.le_refl _, Kd.C_nil _ _, Below.refl _ _⟩
    by_cases h5 : 1 < x1
    · have e := Aside0.mk (HN.out (.inl (by unfold headOk; rw [← hx1.out, decide_eq_false (show ¬ x1 ≤ 1 by omega), Bool.and_false])))
      go_wp2
      go_ret3
      rw [e.out]
      exact ⟨none, 0, rfl, Nat.le_refl _, Kd.C_nil _ _, Below.refl _ _⟩
    have hh : Aside0 (headOk b = true) := ⟨by unfold headOk; rw [← hx0.out, ← hx1.out, decide_eq_true (show 2 ≤ b.length by omega), decide_eq_true (show 1 ≤ x0 by omega), decide_eq_true (show x0 ≤ 60 by omega), decide_eq_true (show x1 ≤ 1 by omega)]; rfl⟩
    obtain ⟨k0, rfl⟩ : ∃ k0 : Nat, x0 = k0 := ⟨x0.toNat, by omega⟩
    have hk : Aside0 (kOf b = 2 + k0) := ⟨by unfold kOf; rw [← hx0.out]; simp⟩
    by_cases h6 : b.length < k0 + 4
    · have e := Aside0.mk (HN.out (.inr (by unfold sumOk; rw [hk.out, decide_eq_false (show ¬ 2 + k0 + 2 ≤ b.length by omega), Bool.false_and])))
      have hd6 : decide ((b.length : Int) < 2 + (k0 : Int) + 2) = true := decide_eq_true (by omega)
      have hw6 : IntKind.i64.wrap (2 + (k0 : Int) + 2) = 2 + (k0 : Int) + 2 := wrap_k (by omega)
      go_wp2
      go_quiet (fail)
      go_wp2
      go_ret3
      rw [e.out]
      exact ⟨none, 0, rfl, Nat.le_refl _, Kd.C_nil _ _, pw_below_drewN (Below.refl _ _) _⟩
    have hd6 : decide ((b.length : Int) < 2 + (k0 : Int) + 2) = false := decide_eq_false (by omega)
    have hw6 : IntKind.i64.wrap (2 + (k0 : Int) + 2) = 2 + (k0 : Int) + 2 := wrap_k (by omega)
    have hT := Aside0.mk (Kd.C_take HR.out (show 2 + k0 ≤ b.length by omega))
    obtain ⟨ad', had, hc2⟩ := Kd.at_int HR.out (((2 + k0 : Nat) : Int)) (by omega) (by omega)
    obtain rfl := Option.some.inj had
    obtain ⟨ad', had, hc3⟩ := Kd.at_int HR.out (((2 + k0 + 1 : Nat) : Int)) (by omega) (by omega)
    obtain rfl := Option.some.inj had
    obtain ⟨y0, hy0⟩ : ∃ x, x = rd b (((2 + k0 : Nat) : Int)) := ⟨_, rfl⟩
    obtain ⟨y1, hy1⟩ : ∃ x, x = rd b (((2 + k0 + 1 : Nat) : Int)) := ⟨_, rfl⟩
    rw [← hy0] at hc2
    rw [← hy1] at hc3
    replace hy0 := Aside0.mk hy0
    replace hy1 := Aside0.mk hy1
    simp only [Int.toNat_natCast] at hc2 hc3
    replace hc3 : w.cell? ⟨(ad.add (2 + k0)).block, (ad.add (2 + k0)).off + 1, none⟩ = some (.int .u8 y1) := by
      have : ad.add (2 + k0 + 1) = ⟨(ad.add (2 + k0)).block, (ad.add (2 + k0)).off + 1, none⟩ := by unfold Addr.add; rw [if_neg (by omega), if_neg (by omega)]; rfl
      rw [← this]; exact hc3
    have HB := Aside0.mk (Below.refl w.heap.size w)
    go_wp2
    have hcc := HC.out
    have f1 : (2 + (k0 : Int)).toNat = 2 + k0 := by omega
    have f2 : (2 + (k0 : Int) + 2).toNat = 2 + k0 + 2 := by omega
    have f3 : (0 : Int) ≤ 2 + (k0 : Int) := by omega
    have f4 : 2 + (k0 : Int) ≤ (c : Int) := by omega
    have f5 : (0 : Int) ≤ 2 + (k0 : Int) + 2 := by omega
    have f6 : 2 + (k0 : Int) + 2 ≤ (c : Int) := by omega
    have f7 : 2 + (k0 : Int) ≤ 2 + (k0 : Int) + 2 := by omega
    have f8 : 2 + k0 ≤ c := by omega
    have f9 : 2 + k0 + 2 ≤ c := by omega
    have f10 : ¬ c = 2 + k0 := by omega
    have f11 : ¬ c = 0 := by omega
    have f12 : 2 + k0 + 2 - (2 + k0) = 2 := by omega
    have f13 : (2 : Int) ≤ 2 + (k0 : Int) := by omega
    have f14 : ¬ k0 = 0 := by omega
    have f15 : ¬ 2 + k0 = 2 := by omega
    have f16 : 2 ≤ 2 + k0 := by omega
    have f17 : 2 + k0 - 2 = k0 := by omega
    have hS : ∀ w' : World, Below w.heap.size w w' → (w'.cell? (ad.add (2 + k0)) = some (.int .u8 y0) ∧ w'.cell? ⟨(ad.add (2 + k0)).block, (ad.add (2 + k0)).off + 1, none⟩ = some (.int .u8 y1) ∧ Below w.heap.size w w') := fun w' h => ⟨(h.cell (World.block_lt_of_cell? w _ hc2)).trans hc2, (h.cell (World.block_lt_of_cell? w _ hc3)).trans hc3, h⟩
    have hLt : Aside0 ((b.take (2 + k0)).length = 2 + k0) := ⟨by rw [List.length_take]; omega⟩
    have hTl : Aside0 ((b.take (2 + k0)).length ≤ c ∧ (b.take (2 + k0)).length ≤ 1000000000) := ⟨by rw [hLt.out]; omega⟩
    cases hq : ((sumsF 0 0 (List.take (2 + k0) b)).1 % 256 == y0 && (sumsF 0 0 (List.take (2 + k0) b)).2 % 256 == y1)
    all_goals go_region_held3 (fun w' => w'.cell? (ad.add (2 + k0)) = some (.int .u8 y0) ∧ w'.cell? ⟨(ad.add (2 + k0)).block, (ad.add (2 + k0)).off + 1, none⟩ = some (.int .u8 y1) ∧ Below w.heap.size w w') (first | assumption | exact hS _ (below_drew (Below.refl _ _))) (first | (go_at_call 86; refine ((hLt.out ▸ sums_walk (some ad) c (b.take (2 + k0)) _ (Kd.C_below hT.out (And.right (And.right (by assumption)))) hTl.out.1 hTl.out.2 : Calls Try.prog 86 #[.slice (some ad) (2 + k0) c] _ _)).mono ?_; rintro e w1 ⟨rfl, hb⟩; have hS1 := hS _ (below_step (And.right (And.right (by assumption))) hb)))
    · have hBW := hS1.2.2
      go_wp2
      have e := HN.out (.inr (by unfold sumOk; rw [hk.out, ← hy0.out, ← hy1.out, hq, Bool.and_false]))
      go_ret3
      rw [e]
      exact ⟨none, 0, rfl, Nat.le_refl _, Kd.C_nil _ _, hBW⟩
    · have hBW := hS1.2.2
      go_wp2
      have e := HN.out (.inr (by unfold sumOk; rw [hk.out, ← hy0.out, ← hy1.out, hq, Bool.and_false]))
      go_ret3
      rw [e]
      exact ⟨none, 0, rfl, Nat.le_refl _, Kd.C_nil _ _, hBW⟩
    · have hBW := hS1.2.2
      have hcb := (hS1.2.2.cell (World.block_lt_of_cell? w _ hc1)).trans hc1
      go_wp2
      go_quiet (fail)
      go_wp2
      have e : firstF b = ((b.take (2 + k0)).drop 2, x1 == 1, 2 + k0 + 2) := by
        have hs : sumOk b = true := by
          unfold sumOk
          rw [hk.out, ← hy0.out, ← hy1.out, hq, Bool.and_true]
          exact decide_eq_true (by omega)
        unfold firstF
        rw [hh.out, hs, Bool.true_and, if_pos rfl, hk.out, ← hx1.out]
      have hm := Kd.C_mid (lo := 2) (hi := 2 + k0) HR.out (by omega) (by omega) HC.out
      have hml : ((b.take (2 + k0)).drop 2).length = k0 := by rw [List.length_drop, List.length_take]; omega
      rw [if_neg (by omega)] at hm
      go_ret3
      rw [e]
      refine ⟨some ⟨ad.block, ad.off + 2, none⟩, k0, ?_, ?_, hm, pw_below_drewN hBW _⟩
      · rw [hml]; rfl
      · rw [hml]; exact Nat.le_refl _
    · have hBW := hS1.2.2
      have hcb := (hS1.2.2.cell (World.block_lt_of_cell? w _ hc1)).trans hc1
      go_wp2
      go_quiet (fail)
      go_wp2
      have e : firstF b = ((b.take (2 + k0)).drop 2, x1 == 1, 2 + k0 + 2) := by
        have hs : sumOk b = true := by
          unfold sumOk
          rw [hk.out, ← hy0.out, ← hy1.out, hq, Bool.and_true]
          exact decide_eq_true (by omega)
        unfold firstF
        rw [hh.out, hs, Bool.true_and, if_pos rfl, hk.out, ← hx1.out]
      have hm := Kd.C_mid (lo := 2) (hi := 2 + k0) HR.out (by omega) (by omega) HC.out
      have hml : ((b.take (2 + k0)).drop 2).length = k0 := by rw [List.length_drop, List.length_take]; omega
      rw [if_neg (by omega)] at hm
      go_ret3
      rw [e]
      refine ⟨some ⟨ad.block, ad.off + 2, none⟩, k0, ?_, ?_, hm, pw_below_drewN hBW _⟩
      · rw [hml]; rfl
      · rw [hml]; exact Nat.le_refl _
end Go.Proofs.Ytnjidfgjldkkcaa.Q
/- slices.Clone at bytes, walked. -/
namespace Go.Proofs.Ytnjidfgjldkkcaa.Q
open Go.RowKit Go.Proofs.YtnjidfgjldkkcaaW.PrintWords Go.Proofs.YtnjidfgjldkkcaaW.PrintLast Go.Proofs.YtnjidfgjldkkcaaW.PrintMore
theorem nil36 (w : World) (a : Option Addr) (n c : Nat) : (binOp .eql 36 (.slice a n c) (.slice none 0 0)).run Try.prog w = .ok (.bool a.isNone) w := Lib.run_eql_slice_nil w 36 5 a n c 0 0 Try.underlying36
attribute [local go_sem] nil36
def slices_Clone_byte_byte.f (l : List Int) : Option (List Int) := if l.length ≤ 1000000000 then some l else none
set_option maxRecDepth 100000 in
set_option maxHeartbeats 4000000 in
theorem slices_Clone_byte_byte.calls (A0 : Option Addr) (c0 : Nat) (l0 : List Int) (r : List Int) (w : World) (hr0 : Kd.C (Kd.int .u8) w A0 l0.length l0) (hc0 : l0.length ≤ c0) (h : slices_Clone_byte_byte.f l0 = some r) :
    Calls Try.prog 58 #[.slice A0 l0.length c0] w fun e w' => ∃ v0_ : Value, e = .returned v0_ ∧ Kd.R (Kd.int .u8) 5 w' w.heap.size (fun _ => True) v0_ r ∧ Below w.heap.size w w' := by
  unfold slices_Clone_byte_byte.f at h
  split at h
  · rename_i hl
    obtain rfl := Option.some.inj h
    go_enter Try.func58, Try.ntmps58
    cases A0 with
    | none =>
      obtain ⟨h1, _, h3⟩ := hr0
      have hl0 : l0 = [] := by
        rcases Nat.eq_zero_or_pos l0.length with h0 | h0
        · exact List.eq_nil_of_length_eq_zero h0
        · obtain ⟨ad, h, _⟩ := h3 h0
          cases h
      subst hl0
      go_wp2
      go_ret
      exact ⟨.slice none 0 0, rfl, Kd.R_nil _ _ _ _ _, Below.refl _ _⟩
    | some ad =>
      have HR := Aside0.mk (Kd.C_below hr0 (below_alloc (Below.refl w.heap.size w) (.cells #[] 5)))
      have HB := Aside0.mk (below_alloc (Below.refl w.heap.size w) (.cells #[] 5))
      have HL := Aside0.mk hl
      clear hr0 hl
      go_wp2_with ((with_reducible refine gate_builtin (b := .append) (xs := #[.tmp 5, .tmp 6]) rfl ?_); at_builtin; refine Kd.R_append_rows (Kd.int .u8) (w0 := w) w.heap.size rfl (.tmp 5) (.tmp 6) 36 5 (.int .u8 0) 1 rfl Try.underlying36 info5 rfl (by decide) (by omega) _ [] l0 (some ad) l0.length c0 (fun _ => True) (fun _ => False) rfl rfl (R_empty (Kd.int .u8) 5 w) HR.out (fun x cs h => h) (fun _ h => h.elim) (fun _ _ => trivial) HB.out (below_size HB.out) (by have := HL.out; simp only [List.length_nil]; omega) ?_; intro v1 w1 ho hb hg hat; replace ho := Aside0.mk ho; replace hb := Aside0.mk hb; clear hg hat)
      go_ret
      exact ⟨v1, rfl, ho.out, hb.out⟩
  · cases h
end Go.Proofs.Ytnjidfgjldkkcaa.Q
/- wal.Read, wal.Scan, walked. -/
namespace Go.Proofs.Ytnjidfgjldkkcaa.Q
open Go.RowKit Go.Proofs.YtnjidfgjldkkcaaW.PrintWords Go.Proofs.YtnjidfgjldkkcaaW.PrintLast Go.Proofs.YtnjidfgjldkkcaaW.PrintMore
theorem R_apart {α β : Type} {d : Kd α} {d' : Kd β} {e e' : Nat} {w : World} {b b' : Nat} {ok ok' : Nat → Prop} {v u : Value} {xs : List α} {ys : List β} (h : d.R e w b ok v xs) (hu : d'.R e' w b' ok' u ys) (ht : ∀ q, q ∈ e :: d.E → q ≠ e') : d.R e w b (fun k => ok k ∧ some k ≠ u.ownBlock) v xs := by
  obtain ⟨_, inner, ho, _⟩ := hu
  refine Kd.R_mono (Kd.R_bound h) (fun k hk => ⟨hk.1, fun he => ?_⟩)
  obtain ⟨_, _, _, q, hq, cells, hc⟩ := hk
  obtain ⟨cells', hc'⟩ := own_typed ho k he.symm
  rw [hc] at hc'
  injection hc' with hc'
  injection hc' with _ hc'
  exact ht q hq hc'
def readF (b : List Int) : Nat → List (List (List Int)) → List (List Int) → Nat → Nat → List (List (List Int)) × Nat
  | 0, bs, _, used, _ => (bs, used)
  | f + 1, bs, ba, used, n => if (firstF (b.drop n)).2.2 = 0 then (bs, used)
    else if (firstF (b.drop n)).2.1 = true then readF b f (bs ++ [ba ++ [(firstF (b.drop n)).1]]) [] (n + (firstF (b.drop n)).2.2) (n + (firstF (b.drop n)).2.2)
    else readF b f bs (ba ++ [(firstF (b.drop n)).1]) used (n + (firstF (b.drop n)).2.2)
theorem firstF_wide (b : List Int) : (firstF b).2.2 ≤ b.length := by
  unfold firstF
  by_cases h : (headOk b && sumOk b) = true
  · rw [if_pos h]
    rw [Bool.and_eq_true] at h
    have := h.2
    unfold sumOk at this
    rw [Bool.and_eq_true, decide_eq_true_eq] at this
    exact this.1
  · rw [if_neg h]; exact Nat.zero_le _
theorem firstF_nil : firstF [] = ([], false, 0) := rfl
theorem firstF_rec (b : List Int) : (firstF b).1.length ≤ b.length := by
  unfold firstF
  by_cases h : (headOk b && sumOk b) = true
  · rw [if_pos h]; simp only [List.length_drop, List.length_take]; omega
  · rw [if_neg h]; exact Nat.zero_le _
abbrev kB : Kd (List Int) := Kd.slice 5 (Kd.int .u8)
abbrev kBB : Kd (List (List Int)) := Kd.slice 36 kB
theorem first_walk' (A : Option Addr) (c m : Nat) (b : List Int) (rc : List Int) (last : Bool) (wd : Nat) (w : World) (hr : Kd.C (Kd.int .u8) w A b.length b) (hc : b.length ≤ c) (hl : b.length ≤ 1000000) (hm : b.length = m) (hrr : (rc, last, wd) = firstF b) :
    Calls Try.prog 74 #[.slice A m c] w fun e w' => ∃ A' c', e = .returned (.tuple #[.slice A' rc.length c', .bool last, .int .i64 (wd : Int)]) ∧ rc.length ≤ c' ∧ Kd.C (Kd.int .u8) w A' rc.length rc ∧ Below w.heap.size w w' := by
  subst hm
  have := first_walk A c b w hr hc hl
  rw [← hrr] at this
  exact this
set_option maxRecDepth 100000 in
set_option maxHeartbeats 8000000 in
theorem read_walk (A : Option Addr) (c : Nat) (b : List Int) (w : World) (hr : Kd.C (Kd.int .u8) w A b.length b) (hc : b.length ≤ c) (hl : b.length ≤ 1000000) :
    Calls Try.prog 56 #[.slice A b.length c] w fun e w' => ∃ v, e = .returned (.tuple #[v, .int .i64 ((readF b (b.length + 1) [] [] 0 0).2 : Int)]) ∧ Kd.R kBB 35 w' w.heap.size (fun _ => True) v (readF b (b.length + 1) [] [] 0 0).1 ∧ Below w.heap.size w w' := by
  have HR := Aside0.mk hr
  have HC := Aside0.mk hc
  have HL := Aside0.mk hl
  clear hr hc hl
  go_enter Try.func56, Try.ntmps56
  go_wp2
  go_loopw [2, 3, 4, 5] (fun v2 v3 v4 v5 wr => ∃ (f n used : Nat) (bs : List (List (List Int))) (ba : List (List Int)), v3 = .int .i64 used ∧ v5 = .int .i64 n ∧ Aside0 (n ≤ b.length) ∧ Aside0 (b.length < n + f) ∧ Aside0 (readF b f bs ba used n = readF b (b.length + 1) [] [] 0 0) ∧ Aside0 (bs.length ≤ n) ∧ Aside0 (ba.length ≤ n) ∧ Aside0 (Kd.R kBB 35 wr w.heap.size (fun k => True ∧ some k ≠ v4.ownBlock) v2 bs) ∧ Aside0 (Kd.R kB 36 wr w.heap.size (fun _ => True) v4 ba) ∧ Aside0 (Below w.heap.size w wr)) (fun _ _ _ v5 _ => b.length - (intOf v5).toNat)
  case atStart => exact ⟨b.length + 1, 0, 0, [], [], rfl, rfl, ⟨Nat.zero_le _⟩, ⟨by omega⟩, ⟨rfl⟩, ⟨Nat.zero_le _⟩, ⟨Nat.zero_le _⟩, ⟨Kd.R_nil _ _ _ _ _⟩, ⟨Kd.R_nil _ _ _ _ _⟩, ⟨Below.refl _ _⟩⟩
  case round =>
    obtain ⟨f, n, used, bs, ba, rfl, rfl, hn, hf, hs, hbl, hal, HO2, HO4, HB⟩ := hrel
    have hn' := hn.out
    have hc' := HC.out
    obtain ⟨g, rfl⟩ : ∃ g, f = g + 1 := ⟨f - 1, by have := hf.out; omega⟩
    obtain ⟨r, hrr⟩ : ∃ r, Aside0 (r = firstF (b.drop n)) := ⟨_, ⟨rfl⟩⟩
    have hw := Aside0.mk (firstF_wide (b.drop n))
    have hrc := Aside0.mk (firstF_rec (b.drop n))
    have hlen : Aside0 ((b.drop n).length = b.length - n) := ⟨List.length_drop⟩
    have hstep : Aside0 ((if r.2.2 = 0 then (bs, used) else if r.2.1 = true then readF b g (bs ++ [ba ++ [r.1]]) [] (n + r.2.2) (n + r.2.2) else readF b g bs (ba ++ [r.1]) used (n + r.2.2)) = readF b (b.length + 1) [] [] 0 0) := ⟨by rw [← hs.out, hrr.out]; rfl⟩
    have hD := Aside0.mk (Kd.C_drop (m := n) (c := c) (Kd.C_below HR.out HB.out) hn' hc')
    have hlc : Aside0 (b.length - n ≤ c - n ∧ b.length - n ≤ 1000000) := ⟨by have := HL.out; omega⟩
    by_cases hcn : c = n
    · have hz : Aside0 (r = ([], false, 0)) := ⟨by rw [hrr.out, List.drop_of_length_le (by omega)]; rfl⟩
      rw [if_pos hcn] at hD
      have hex : Aside0 ((bs, used) = readF b (b.length + 1) [] [] 0 0) := ⟨by have := hstep.out; rw [hz.out, if_pos rfl] at this; exact this⟩
      rw [hz.out] at hrr
      go_wp2_with (go_at_call 74; refine (first_walk' A 0 (b.length - n) (b.drop n) [] false 0 _ hD.out (by rw [hlen.out]; omega) (by rw [hlen.out]; exact hlc.out.2) hlen.out hrr.out).mono ?_; rintro e w1 ⟨A', c', rfl, hcr, hCr, hb⟩; have HB1 := Aside0.mk (below_step HB.out hb); have HO21 := Aside0.mk (Kd.R_drop (Kd.R_below HO2.out hb)); clear hcr hCr hb)
      go_ret2
      rw [← hex.out]
      exact ⟨_, rfl, HO21.out, HB1.out⟩
    · rw [if_neg hcn, show (Kd.int .u8).sz = 1 from rfl, Nat.mul_one] at hD
      obtain ⟨rc, last, wd⟩ := r
      by_cases hwd : wd = 0
      · subst hwd
        have hex : Aside0 ((bs, used) = readF b (b.length + 1) [] [] 0 0) := ⟨by have := hstep.out; rw [if_pos rfl] at this; exact this⟩
        go_wp2_with (go_at_call 74; refine (first_walk' (Option.map (fun x => x.add n) A) (c - n) (b.length - n) (b.drop n) rc _ _ _ hD.out (by rw [hlen.out]; exact hlc.out.1) (by rw [hlen.out]; exact hlc.out.2) hlen.out hrr.out).mono ?_; rintro e w1 ⟨A', c', rfl, hcr, hCr, hb⟩; have HB1 := Aside0.mk (below_step HB.out hb); have HO21 := Aside0.mk (Kd.R_below HO2.out hb); have HO41 := Aside0.mk (Kd.R_below HO4.out hb); have HCR := Aside0.mk (Kd.C_below hCr hb); have hcr' := Aside0.mk hcr; clear hcr hCr hb)
        go_ret2
        rw [← hex.out]
        exact ⟨_, rfl, Kd.R_drop HO21.out, HB1.out⟩
      · have hwd' : ((wd : Int) == 0) = false := by simp; omega
        have hrl : Aside0 (rc.length ≤ 1000000000) := ⟨by have h1 := hrc.out; rw [← hrr.out] at h1; replace h1 : rc.length ≤ _ := h1; have := hlen.out; have := HL.out; omega⟩
        have hwb : n + wd ≤ b.length := by have h1 := hw.out; rw [← hrr.out] at h1; replace h1 : wd ≤ _ := h1; have := hlen.out; omega
        have hbm : b.length ≤ 1000000 := HL.out
        cases last
        · have hex : Aside0 (readF b g bs (ba ++ [rc]) used (n + wd) = readF b (b.length + 1) [] [] 0 0) := ⟨by have := hstep.out; rw [if_neg hwd, if_neg (by simp)] at this; exact this⟩
          go_wp2_with (first | (go_at_call 74; refine (first_walk' (Option.map (fun x => x.add n) A) (c - n) (b.length - n) (b.drop n) rc _ _ _ hD.out (by rw [hlen.out]; exact hlc.out.1) (by rw [hlen.out]; exact hlc.out.2) hlen.out hrr.out).mono ?_; rintro e w1 ⟨A', c', rfl, hcr, hCr, hb⟩; have HB1 := Aside0.mk (below_step HB.out hb); have HO21 := Aside0.mk (Kd.R_below HO2.out hb); have HO41 := Aside0.mk (Kd.R_below HO4.out hb); have HCR := Aside0.mk (Kd.C_below hCr hb); have hcr' := Aside0.mk hcr; clear hcr hCr hb) | (go_at_call 58; refine (slices_Clone_byte_byte.calls A' c' rc rc _ HCR.out hcr'.out (by unfold slices_Clone_byte_byte.f; rw [if_pos hrl.out])).mono ?_; rintro e w2 ⟨vc, rfl, hoc, hb2⟩; obtain ⟨Ac, cc, rfl⟩ := Kd.R_slice hoc; have HB2 := Aside0.mk (below_step HB1.out hb2); have HO22 := Aside0.mk (Kd.R_below HO21.out hb2); have HO42 := Aside0.mk (Kd.R_below HO41.out hb2); have HOc := Aside0.mk (Kd.R_lower (Kd.R_mono (ok' := fun k => w1.heap.size ≤ k) (Kd.R_bound hoc) (fun k hk => hk.2.1)) HB1.out.size); have hap : Aside0 (∀ k, w1.heap.size ≤ k → True ∧ some k ≠ u4.ownBlock) := ⟨fun k hk => ⟨trivial, fun he => (by obtain ⟨_, inner, ho, _⟩ := HO41.out; have := own_lt ho k he.symm; omega)⟩⟩; clear hoc hb2) | ((with_reducible refine gate_builtin (b := .append) (xs := #[.tmp 21, .tmp 24]) rfl ?_); at_builtin; refine Kd.R_append kB (w0 := w) w.heap.size rfl (.tmp 21) (.tmp 24) 35 36 (.slice none 0 0) 24 rfl Try.underlying35 info36 rfl (by decide) (by omega) u4 ba rc [.slice Ac rc.length cc] (fun _ => True) (fun k => w1.heap.size ≤ k) rfl rfl ⟨_, rfl, HOc.out⟩ hap.out (fun _ _ => trivial) HO42.out HB2.out (below_size HB2.out) (by have := hal.out; have := HL.out; omega) ?_; intro v4 w3 ho hb hg hat; obtain ⟨A4, c4, rfl⟩ := Kd.R_slice ho; rw [List.length_append, List.length_singleton] at ho hat; have HO43 := Aside0.mk ho; have HB3 := Aside0.mk hb; have HO23 := Aside0.mk (Kd.R_after HO22.out hg hat); clear ho hb hg hat))
          go_roundw
          case rel => exact ⟨g, n + wd, used, bs, ba ++ [rc], rfl, by simp, ⟨hwb⟩, ⟨by have := hf.out; omega⟩, hex, ⟨by have := hbl.out; omega⟩, ⟨by have := hal.out; rw [List.length_append, List.length_singleton]; omega⟩, HO23, HO43, HB3⟩
          case measure => simp [intOf]; omega
        · have hex : Aside0 (readF b g (bs ++ [ba ++ [rc]]) [] (n + wd) (n + wd) = readF b (b.length + 1) [] [] 0 0) := ⟨by have := hstep.out; rw [if_neg hwd, if_pos rfl] at this; exact this⟩
          go_wp2_with (first | (go_at_call 74; refine (first_walk' (Option.map (fun x => x.add n) A) (c - n) (b.length - n) (b.drop n) rc _ _ _ hD.out (by rw [hlen.out]; exact hlc.out.1) (by rw [hlen.out]; exact hlc.out.2) hlen.out hrr.out).mono ?_; rintro e w1 ⟨A', c', rfl, hcr, hCr, hb⟩; have HB1 := Aside0.mk (below_step HB.out hb); have HO21 := Aside0.mk (Kd.R_below HO2.out hb); have HO41 := Aside0.mk (Kd.R_below HO4.out hb); have HCR := Aside0.mk (Kd.C_below hCr hb); have hcr' := Aside0.mk hcr; clear hcr hCr hb) | (go_at_call 58; refine (slices_Clone_byte_byte.calls A' c' rc rc _ HCR.out hcr'.out (by unfold slices_Clone_byte_byte.f; rw [if_pos hrl.out])).mono ?_; rintro e w2 ⟨vc, rfl, hoc, hb2⟩; obtain ⟨Ac, cc, rfl⟩ := Kd.R_slice hoc; have HB2 := Aside0.mk (below_step HB1.out hb2); have HO22 := Aside0.mk (Kd.R_below HO21.out hb2); have HO42 := Aside0.mk (Kd.R_below HO41.out hb2); have HOc := Aside0.mk (Kd.R_lower (Kd.R_mono (ok' := fun k => w1.heap.size ≤ k) (Kd.R_bound hoc) (fun k hk => hk.2.1)) HB1.out.size); have hap : Aside0 (∀ k, w1.heap.size ≤ k → True ∧ some k ≠ u4.ownBlock) := ⟨fun k hk => ⟨trivial, fun he => (by obtain ⟨_, inner, ho, _⟩ := HO41.out; have := own_lt ho k he.symm; omega)⟩⟩; clear hoc hb2) | ((with_reducible refine gate_builtin (b := .append) (xs := #[.tmp 21, .tmp 24]) rfl ?_); at_builtin; refine Kd.R_append kB (w0 := w) w.heap.size rfl (.tmp 21) (.tmp 24) 35 36 (.slice none 0 0) 24 rfl Try.underlying35 info36 rfl (by decide) (by omega) u4 ba rc [.slice Ac rc.length cc] (fun _ => True) (fun k => w1.heap.size ≤ k) rfl rfl ⟨_, rfl, HOc.out⟩ hap.out (fun _ _ => trivial) HO42.out HB2.out (below_size HB2.out) (by have := hal.out; have := HL.out; omega) ?_; intro v4 w3 ho hb hg hat; obtain ⟨A4, c4, rfl⟩ := Kd.R_slice ho; rw [List.length_append, List.length_singleton] at ho hat; have HO43 := Aside0.mk ho; have HB3 := Aside0.mk hb; have HO23 := Aside0.mk (Kd.R_after HO22.out hg hat); clear ho hb hg hat) | ((with_reducible refine gate_builtin (b := .append) (xs := #[.tmp 30, .tmp 32]) rfl ?_); at_builtin; refine Kd.R_append kBB (w0 := w) w.heap.size rfl (.tmp 30) (.tmp 32) 41 35 (.slice none 0 0) 24 rfl Try.underlying41 info35 rfl (by decide) (by omega) u2 bs (ba ++ [rc]) [.slice A4 (ba.length + 1) c4] (fun _ => True) (fun k => True ∧ some k ≠ u2.ownBlock) rfl rfl ⟨_, rfl, R_apart HO43.out HO23.out (by intro q hq; simp [Kd.slice, Kd.int, Kd.scalar] at hq; omega)⟩ (fun k hk => hk) (fun _ _ => trivial) (Kd.R_drop HO23.out) HB3.out (below_size HB3.out) (by have := hbl.out; have := HL.out; omega) ?_; intro v5 w4 ho hb hg hat; have HO24 := Aside0.mk ho; have HB4 := Aside0.mk hb; clear ho hb hg hat))
          go_roundw
          case rel => exact ⟨g, n + wd, n + wd, bs ++ [ba ++ [rc]], [], by simp, by simp, ⟨hwb⟩, ⟨by have := hf.out; omega⟩, hex, ⟨by have := hbl.out; rw [List.length_append, List.length_singleton]; omega⟩, ⟨Nat.zero_le _⟩, ⟨Kd.R_apart_nil HO24.out⟩, ⟨Kd.R_nil _ _ _ _ _⟩, HB4⟩
          case measure => simp [intOf]; omega
def scanF (b : List Int) : List (List (List Int)) × Int × Int := if 1200 < b.length then ([], 0, 1) else ((readF b (b.length + 1) [] [] 0 0).1, ((readF b (b.length + 1) [] [] 0 0).2 : Int), 0)
def wal_Scan.f (b : List Int) : Option (List (List (List Int)) × Int × Int) := some (scanF b)
set_option maxRecDepth 100000 in
set_option maxHeartbeats 8000000 in
theorem wal_Scan.calls (A0 : Option Addr) (c0 : Nat) (l0 : List Int) (r1 : List (List (List Int))) (r2 : Int) (r3 : Int) (w : World) (hr0 : Kd.C (Kd.int .u8) w A0 l0.length l0) (hc0 : l0.length ≤ c0) (h : wal_Scan.f l0 = some (r1, r2, r3)) :
    Calls Try.prog 30 #[.slice A0 l0.length c0] w fun e w' => ∃ v0_ : Value, e = .returned (.tuple #[v0_, .int .i64 r2, .int .i64 r3]) ∧ Kd.R kBB 35 w' w.heap.size (fun _ => True) v0_ r1 ∧ Below w.heap.size w w' := by
  replace h := Option.some.inj h
  unfold scanF at h
  have HR := Aside0.mk hr0
  have HC := Aside0.mk hc0
  clear hr0 hc0
  go_enter Try.func30, Try.ntmps30
  by_cases h1 : 1200 < l0.length
  · rw [if_pos h1] at h
    simp only [Prod.mk.injEq] at h
    obtain ⟨rfl, rfl, rfl⟩ := h
    go_wp2
    go_ret3
    exact ⟨_, rfl, Kd.R_nil _ _ _ _ _, Below.refl _ _⟩
  · rw [if_neg h1] at h
    simp only [Prod.mk.injEq] at h
    obtain ⟨rfl, rfl, rfl⟩ := h
    go_wp2_with (go_at_call 56; refine (read_walk A0 c0 l0 _ HR.out HC.out (by omega)).mono ?_; rintro e w1 ⟨v, rfl, ho, hb⟩; have HO := Aside0.mk ho; have HB := Aside0.mk hb; clear ho hb)
    go_ret3
    exact ⟨_, rfl, HO.out, HB.out⟩
end Go.Proofs.Ytnjidfgjldkkcaa.Q
/- store.batch, walked. -/
namespace Go.Proofs.Ytnjidfgjldkkcaa.Q
open Go.RowKit Go.Proofs.YtnjidfgjldkkcaaW.PrintWords Go.Proofs.YtnjidfgjldkkcaaW.PrintLast Go.Proofs.YtnjidfgjldkkcaaW.PrintMore Go.Proofs.Ytnjidfgjldkkcaa.Plain
def batchF (l : List S69) : List Int := packF (l.map recordF)
theorem recordF_len (r : S69) (h : r.f0.size ≤ 20 ∧ r.f1.size ≤ 20) : (recordF r).length ≤ 41 := by
  unfold recordF
  rw [List.length_cons, List.length_append, bytesOf_length, bytesOf_length]
  omega
set_option maxRecDepth 100000 in
set_option maxHeartbeats 8000000 in
theorem batch_walk (A : Option Addr) (c : Nat) (l : List S69) (w : World) (hr : Kd.C k69 w A l.length l) (hc : l.length ≤ c) (hl : l.length ≤ 1000) (hs : ∀ r ∈ l, r.f0.size ≤ 20 ∧ r.f1.size ≤ 20) :
    Calls Try.prog 92 #[.slice A l.length c] w fun e w' => ∃ v, e = .returned v ∧ (Kd.int .u8).R 5 w' w.heap.size (fun _ => True) v (batchF l) ∧ Below w.heap.size w w' := by
  have HR := Aside0.mk hr
  have HC := Aside0.mk hc
  have HS := Aside0.mk hs
  clear hr hc hs
  go_enter Try.func92, Try.ntmps92
  go_wp2
  go_loopw [3, 8] (fun v vi wr => ∃ (i : Nat), vi = .int .i64 i ∧ Aside0 (i ≤ l.length) ∧ Aside0 (Kd.R kB 36 wr w.heap.size (fun _ => True) v ((l.take i).map recordF)) ∧ Aside0 (Below w.heap.size w wr)) (fun _ vi _ => l.length - (intOf vi).toNat)
  case atStart => exact ⟨0, rfl, ⟨Nat.zero_le _⟩, ⟨Kd.R_nil _ _ _ _ _⟩, ⟨Below.refl _ _⟩⟩
  case round =>
    obtain ⟨i, rfl, hi, HO, HB⟩ := hrel
    have hi' := hi.out
    by_cases hlt : i < l.length
    · obtain ⟨ad, rfl, x0, x1⟩ := at_T69 (Kd.C_below HR.out HB.out) (i : Int) (by omega) (by omega)
      obtain ⟨r, hr⟩ : ∃ r, Aside0 (r = rd_T69 l (i : Int)) := ⟨_, ⟨rfl⟩⟩
      rw [← hr.out] at x0 x1
      rw [Int.toNat_natCast] at x0 x1
      have hrs : Aside0 (r.f0.size ≤ 20 ∧ r.f1.size ≤ 20) := ⟨by rw [hr.out, rd69 hlt]; exact HS.out _ (List.getElem_mem hlt)⟩
      have htk : Aside0 ((l.take i).map recordF ++ [recordF r] = (l.take (i + 1)).map recordF) := ⟨by rw [hr.out, rd69 hlt, List.take_succ_eq_append_getElem hlt, List.map_append]; rfl⟩
      have hln : Aside0 (((l.take i).map recordF).length = i) := ⟨by rw [List.length_map, List.length_take]; omega⟩
      clear hr
      obtain ⟨k, u⟩ := r
      generalize (l.take i).map recordF = out at *
      go_wp2_with (first | (go_at_call 95; refine (record_walk k u _ hrs.out.1 hrs.out.2).mono ?_; rintro e_ w1 ⟨v1, rfl, ho, hb⟩; obtain ⟨A1, c1, rfl⟩ := Kd.R_slice ho; have HD := Aside0.mk (below_step (below_alloc (Below.refl _ _) _ : Below wr.heap.size wr (wr.alloc (.cells #[.string k, .string u] 69))) hb); have HB1 := Aside0.mk (below_step HB.out HD.out); have HO1 := Aside0.mk (Kd.R_mono (ok' := fun q => wr.heap.size ≤ q) (Kd.R_lower (Kd.R_bound ho) (base' := w.heap.size) (Nat.le_trans HB.out.size (by simp))) (fun q hq => (by have := hq.2.1; simp at this; omega))); have HO2 := Aside0.mk (Kd.R_below HO.out HD.out); have hap : Aside0 (∀ q, wr.heap.size ≤ q → True ∧ some q ≠ u3.ownBlock) := ⟨fun q hq => ⟨trivial, fun he => (by have := Kd.R_lt HO.out q he.symm; omega)⟩⟩; clear ho hb) | ((with_reducible refine gate_builtin (b := .append) (xs := #[.tmp 12, .tmp 15]) rfl ?_); at_builtin; refine Kd.R_append kB (w0 := w) w.heap.size rfl (.tmp 12) (.tmp 15) 35 36 (.slice none 0 0) 24 rfl Try.underlying35 info36 rfl (by decide) (by omega) u3 out (recordF ⟨k, u⟩) [.slice A1 (recordF ⟨k, u⟩).length c1] (fun _ => True) (fun q => wr.heap.size ≤ q) rfl rfl ⟨_, rfl, HO1.out⟩ hap.out (fun _ _ => trivial) HO2.out HB1.out (below_size HB1.out) (by have := hln.out; omega) ?_; intro v4 w3 ho hb hg hat; obtain ⟨A4, c4, rfl⟩ := Kd.R_slice ho; rw [List.length_append, List.length_singleton, htk.out] at ho; have HO3 := Aside0.mk ho; have HB3 := Aside0.mk hb; clear ho hb hg hat))
      go_roundw
      case rel => exact ⟨i + 1, by go_num, ⟨by omega⟩, HO3, HB3⟩
      case measure => simp [intOf]; omega
    · have hfull : Aside0 (l.take i = l) := ⟨List.take_of_length_le (by omega)⟩
      have hlm : Aside0 (∀ r ∈ l.map recordF, r.length ≤ 100) := ⟨fun r hr => by
        obtain ⟨q, hq, rfl⟩ := List.mem_map.1 hr
        have := recordF_len q (HS.out q hq)
        omega⟩
      have hln : Aside0 ((l.map recordF).length ≤ 1000) := ⟨by rw [List.length_map]; exact hl⟩
      have hbe : Aside0 (packF (l.map recordF) = batchF l) := ⟨rfl⟩
      rw [hfull.out] at HO
      clear hfull
      generalize l.map recordF = recs at *
      obtain ⟨A3, c3, rfl⟩ := Kd.R_slice HO.out
      have hcap := Aside0.mk (Kd.R_reads' HO.out)
      go_wp2_with (go_at_call 54; refine (of_walk A3 c3 recs _ hcap.out.2.2 hcap.out.2.1 (by have := hln.out; omega) hlm.out).mono ?_; rintro e w2 ⟨v1, rfl, ho, hb⟩; obtain ⟨A5, c5, rfl⟩ := Kd.R_slice ho; have HO5 := Aside0.mk (Kd.R_lower ho HB.out.size); have HB5 := Aside0.mk (below_step HB.out hb); clear ho hb)
      go_ret
      rw [← hbe.out]
      exact ⟨_, rfl, HO5.out, HB5.out⟩
end Go.Proofs.Ytnjidfgjldkkcaa.Q
/- The methods of disk.Disk, walked; the disk may be the head of another state (a store). -/
namespace Go.Proofs.Ytnjidfgjldkkcaa.Q
open Go.RowKit Go.Proofs.YtnjidfgjldkkcaaW.PrintWords Go.Proofs.YtnjidfgjldkkcaaW.PrintLast Go.Proofs.YtnjidfgjldkkcaaW.PrintMore
attribute [local go_sem] max2_int min2_int max_two min_two
/-- A disk at block g (type t; behind it the cells rest). -/
def DiskAt (t : Nat) (rest : List Value) (w : World) (base g : Nat) (v : Value) (s : Nat) (data : List Int) : Prop :=
  w.heap[g]? = some (.cells (v :: .int .i64 (s : Int) :: rest).toArray t (0, 0)) ∧ base ≤ g ∧ (Kd.int .u8).R 5 w base (fun _ => True) v data ∧ s ≤ data.length
theorem DiskAt.lt {t : Nat} {rest : List Value} {w : World} {base g : Nat} {v : Value} {s : Nat} {data : List Int} (h : DiskAt t rest w base g v s data) : base ≤ w.heap.size := Nat.le_of_lt (Nat.lt_of_le_of_lt h.2.1 (blk_lt h.1))
theorem DiskAt.cells {t : Nat} {rest : List Value} {w : World} {base g : Nat} {v : Value} {s : Nat} {data : List Int} (h : DiskAt t rest w base g v s data) :
    w.cell? ⟨g, 0, none⟩ = some v ∧ w.cell? ⟨g, 1, none⟩ = some (.int .i64 (s : Int)) ∧ w.frozen? ⟨g, 0, none⟩ = false ∧ w.frozen? ⟨g, 1, none⟩ = false :=
  ⟨by rw [blk_cell h.1]; rfl, by rw [blk_cell h.1]; rfl, blk_frozen h.1 0, blk_frozen h.1 1⟩
theorem DiskAt.keep {t : Nat} {rest : List Value} {w w' : World} {base B g : Nat} {v : Value} {s : Nat} {data : List Int} {T : List Nat} (h : DiskAt t rest w base g v s data) (hm : ModT T B w w') (ht : t ∉ T) (h5 : 5 ∉ T) : DiskAt t rest w' base g v s data :=
  ⟨hm.keep h.1 ht, h.2.1, hm.R h.2.2.1 (by intro q hq; simp [Kd.int, Kd.scalar] at hq; subst hq; exact h5), h.2.2.2⟩
/-- How a method of a disk ends. -/
def DkPost (t : Nat) (rest : List Value) (base g : Nat) (w : World) (r : Value) (s : Nat) (d : List Int) (e : Ending) (w' : World) : Prop := ∃ v', e = .returned r ∧ DiskAt t rest w' base g v' s d ∧ ModT [t, 5] base w w'
def wrCode (d b : List Int) : Int := if 1200 < d.length + b.length then 10 else 0
def wrData (d b : List Int) : List Int := if 1200 < d.length + b.length then d else d ++ b
set_option maxRecDepth 100000 in
set_option maxHeartbeats 4000000 in
theorem disk_Write (t : Nat) (rest : List Value) (base g : Nat) (v : Value) (s : Nat) (data b : List Int) (A : Option Addr) (c m : Nat) (w : World) (hd : DiskAt t rest w base g v s data) (ht : t ≠ 5)
    (hC : (Kd.int .u8).C w A m b) (hc : m ≤ c) (hm : b.length = m) (hl : data.length + b.length ≤ 1000000000000000000) :
    Calls Try.prog 87 #[.pointer (some ⟨g, 0, none⟩), .slice A m c] w (DkPost t rest base g w (.int .i64 (wrCode data b)) s (wrData data b)) := by
  subst hm
  have HD := Aside0.mk hd
  have HC := Aside0.mk hC
  obtain ⟨A0, c0, rfl⟩ := Kd.R_slice hd.2.2.1
  obtain ⟨h0, h1, hf0, hf1⟩ := hd.cells
  clear hd hC
  go_enter Try.func87, Try.ntmps87
  by_cases hlt : 1200 < data.length + b.length
  · have hr : Aside0 (wrCode data b = 10 ∧ wrData data b = data) := ⟨by unfold wrCode wrData; rw [if_pos hlt, if_pos hlt]; exact ⟨rfl, rfl⟩⟩
    have hlt' : (1200 : Int) < (data.length : Int) + (b.length : Int) := by omega
    go_wp2
    go_ret
    rw [hr.out.1, hr.out.2]
    exact ⟨_, rfl, HD.out, ModT.refl _ _ _⟩
  · have hr : Aside0 (wrCode data b = 0 ∧ wrData data b = data ++ b) := ⟨by unfold wrCode wrData; rw [if_neg hlt, if_neg hlt]; exact ⟨rfl, rfl⟩⟩
    have hlt' : (data.length : Int) + (b.length : Int) ≤ 1200 := by omega
    go_wp2_with ((with_reducible refine gate_builtin (b := .append) (xs := #[.tmp 18, .tmp 19]) rfl ?_); at_builtin; refine Kd.R_append_rows (Kd.int .u8) (w0 := w) base rfl (.tmp 18) (.tmp 19) 36 5 (.int .u8 0) 1 rfl Try.underlying36 info5 rfl (by decide) (by omega) (.slice A0 data.length c0) data b A b.length c (fun _ => True) (fun _ => False) rfl rfl HD.out.2.2.1 HC.out (fun x cs h => h) (fun _ h => h.elim) (fun _ h => trivial) (Below.refl _ _) HD.out.lt (by omega) ?_; intro v1 w1 ho hb hg hat; obtain ⟨A1, c1, rfl⟩ := Kd.R_slice ho; rw [List.length_append] at ho; have HO := Aside0.mk ho; have HM := Aside0.mk (ModT.grown (T := [t, 5]) hg HD.out.2.2.1 (by simp) (Nat.le_refl base)); have HG := Aside0.mk (blk_grown HD.out.1 hg (Kd.R_ne HD.out.2.2.1 HD.out.1 (Ne.symm ht))); have f1 := blk_frozen HG.out 0; have g1 : w1.cell? ⟨g, 0, none⟩ = some (.slice A0 data.length c0) := (by rw [blk_cell HG.out]; rfl); clear ho hb hg hat)
    go_ret
    rw [hr.out.1, hr.out.2]
    exact ⟨_, rfl, ⟨by rw [heap_set1 HG.out]; rfl, HD.out.2.1, Kd.R_set HO.out HG.out (by intro q hq; simp [Kd.int, Kd.scalar] at hq; omega) _ _, by have := HD.out.2.2.2; rw [List.length_append]; omega⟩, HM.out.trans (ModT.set_ HG.out (by simp) HD.out.2.1 _)⟩
theorem noR5 {t : Nat} (ht : t ≠ 5) : ∀ q, q ∈ 5 :: (Kd.int .u8).E → q ≠ t := by
  intro q hq; simp [Kd.int, Kd.scalar] at hq; omega
set_option maxRecDepth 100000 in
set_option maxHeartbeats 4000000 in
theorem disk_Sync (t : Nat) (rest : List Value) (base g : Nat) (v : Value) (s : Nat) (data : List Int) (w : World) (hd : DiskAt t rest w base g v s data) (ht : t ≠ 5) :
    Calls Try.prog 88 #[.pointer (some ⟨g, 0, none⟩)] w (DkPost t rest base g w (.tuple #[]) data.length data) := by
  have HD := Aside0.mk hd
  obtain ⟨A0, c0, rfl⟩ := Kd.R_slice hd.2.2.1
  obtain ⟨h0, h1, hf0, hf1⟩ := hd.cells
  clear hd
  go_enter Try.func88, Try.ntmps88
  go_wp2
  go_end0
  exact ⟨_, rfl, ⟨by rw [heap_set1 HD.out.1]; rfl, HD.out.2.1, Kd.R_set HD.out.2.2.1 HD.out.1 (noR5 ht) _ _, Nat.le_refl _⟩, ModT.set_ HD.out.1 (by simp) HD.out.2.1 _⟩
set_option maxRecDepth 100000 in
set_option maxHeartbeats 4000000 in
theorem disk_Trim (t : Nat) (rest : List Value) (base g : Nat) (v : Value) (s : Nat) (data : List Int) (n : Nat) (w : World) (hd : DiskAt t rest w base g v s data) (ht : t ≠ 5) (hn : n ≤ data.length) :
    Calls Try.prog 89 #[.pointer (some ⟨g, 0, none⟩), .int .i64 (n : Int)] w (DkPost t rest base g w (.tuple #[]) n (data.take n)) := by
  have HD := Aside0.mk hd
  obtain ⟨A0, c0, rfl⟩ := Kd.R_slice hd.2.2.1
  have hc := (Kd.R_reads' hd.2.2.1).2.1
  obtain ⟨h0, h1, hf0, hf1⟩ := hd.cells
  clear hd
  go_enter Try.func89, Try.ntmps89
  go_wp2
  go_end0
  have h2 := ModT.set_ (T := [t, 5]) (j := 0) HD.out.1 (by simp) HD.out.2.1 (.slice A0 n c0)
  have e2 := heap_set1 (j := 0) (u := .slice A0 n c0) HD.out.1
  have e3 := heap_set1 (j := 1) (u := .int .i64 (n : Int)) e2
  have hl : (data.take n).length = n := by rw [List.length_take]; omega
  refine ⟨_, rfl, ⟨by rw [e3]; rfl, HD.out.2.1, ?_, by omega⟩, h2.trans (ModT.set_ e2 (by simp) HD.out.2.1 _)⟩
  have := Kd.R_take HD.out.2.2.1 hn
  exact Kd.R_set (Kd.R_set this HD.out.1 (noR5 ht) _ _) e2 (noR5 ht) _ _
def fallN (s n len : Nat) : Nat := s + min n (len - s)
set_option maxRecDepth 100000 in
set_option maxHeartbeats 4000000 in
theorem disk_Fall (t : Nat) (rest : List Value) (base g : Nat) (v : Value) (s : Nat) (data : List Int) (n : Nat) (w : World) (hd : DiskAt t rest w base g v s data) (ht : t ≠ 5) (hl : data.length ≤ 1000000000) :
    Calls Try.prog 90 #[.pointer (some ⟨g, 0, none⟩), .int .i64 (n : Int)] w (DkPost t rest base g w (.tuple #[]) (fallN s n data.length) (data.take (fallN s n data.length))) := by
  have HD := Aside0.mk hd
  obtain ⟨A0, c0, rfl⟩ := Kd.R_slice hd.2.2.1
  have hc := (Kd.R_reads' hd.2.2.1).2.1
  obtain ⟨h0, h1, hf0, hf1⟩ := hd.cells
  have hs := hd.2.2.2
  have HDr : Aside0 (DiskAt t rest w.drew base g (.slice A0 data.length c0) s data) := ⟨⟨hd.1, hd.2.1, Kd.R_drew hd.2.2.1, hd.2.2.2⟩⟩
  clear hd
  have e1 : Aside0 (IntKind.i64.wrap ((data.length : Int) - (s : Int)) = ((data.length - s : Nat) : Int)) := ⟨by rw [IntWalk.i64_in _ (by omega)]; omega⟩
  have e2 : Aside0 ((if ((data.length - s : Nat) : Int) < (n : Int) then ((data.length - s : Nat) : Int) else (n : Int)) = ((min n (data.length - s) : Nat) : Int)) := ⟨by split <;> omega⟩
  have e3 : Aside0 (IntKind.i64.wrap ((s : Int) + ((min n (data.length - s) : Nat) : Int)) = ((fallN s n data.length : Nat) : Int)) := ⟨by unfold fallN; rw [IntWalk.i64_in _ (by omega)]; omega⟩
  have hf : Aside0 (fallN s n data.length ≤ data.length) := ⟨by unfold fallN; omega⟩
  go_enter Try.func90, Try.ntmps90
  go_wp2
  go_still_tail 18, (by kernel_rfl)
  rw [e1.out, e2.out, e3.out]
  change wpList _ _ _ _ _ w.drew
  have hmd : Aside0 (ModT [t, 5] base w w.drew) := ⟨ModT.of_below (below_drew (Below.refl _ _))⟩
  generalize w.drew = w2 at HDr hmd ⊢
  go_wp2_with (go_at_call 89; refine (disk_Trim t rest base g _ s data _ _ HDr.out ht hf.out).mono ?_; rintro e w3 ⟨v', rfl, hd, hm⟩; have HD3 := Aside0.mk hd; have HM3 := Aside0.mk hm; clear hd hm)
  go_end0
  exact ⟨v', rfl, HD3.out, hmd.out.trans HM3.out⟩
/-- One move of a disk: its code; the bytes; how many are synced. -/
def dskStep (d : List Int) (s : Nat) (m : S72) : Int × List Int × Nat :=
  if m.f0 = 1 then (if 1200 < d.length + m.f1.length then (10, d, s) else (0, d ++ m.f1, s))
  else if m.f0 = 2 then (0, d, d.length)
  else if m.f0 = 3 then (if m.f2 < 0 then (2, d, s) else if (d.length : Int) < m.f2 then (2, d, s) else (0, d.take m.f2.toNat, m.f2.toNat))
  else if m.f0 = 4 then (if m.f2 < 0 then (2, d, s) else (0, d.take (fallN s m.f2.toNat d.length), fallN s m.f2.toNat d.length))
  else (3, d, s)
theorem DiskAt.box {t : Nat} {rest : List Value} {w : World} {base g : Nat} {v : Value} {s : Nat} {data : List Int} (h : DiskAt t rest w base g v s data) (o : Obj) : DiskAt t rest (w.alloc o) base g v s data := h.keep (ModT.alloc [] base w o) (by simp) (by simp)
theorem DiskAt.drewN {t : Nat} {rest : List Value} {w : World} {base g : Nat} {v : Value} {s : Nat} {data : List Int} (h : DiskAt t rest w base g v s data) (n : Nat) : DiskAt t rest (w.drewN n) base g v s data := h.keep (ModT.drewN [] base w n) (by simp) (by simp)
set_option maxRecDepth 100000 in
set_option maxHeartbeats 4000000 in
theorem disk_do (t : Nat) (rest : List Value) (base g : Nat) (v : Value) (s : Nat) (data : List Int) (m : S72) (A : Option Addr) (c : Nat) (w : World) (hd : DiskAt t rest w base g v s data) (ht : t ≠ 5)
    (hC : (Kd.int .u8).C w A m.f1.length m.f1) (hc : m.f1.length ≤ c) (hl : data.length ≤ 10000) (hm : m.f1.length ≤ 140737488351232) :
    Calls Try.prog 75 #[.pointer (some ⟨g, 0, none⟩), .agg #[.int .i64 m.f0, .slice A m.f1.length c, .int .i64 m.f2]] w (DkPost t rest base g w (.int .i64 (dskStep data s m).1) (dskStep data s m).2.2 (dskStep data s m).2.1) := by
  obtain ⟨k, b, n⟩ := m
  simp only at hC hc hm ⊢
  have HD := Aside0.mk hd
  have HC := Aside0.mk hC
  have h0 := hd.cells.1
  have h1 := hd.cells.2.1
  have hDs := hd.2.2.2
  have hg : Aside0 (g < w.heap.size) := ⟨blk_lt hd.1⟩
  have HM0 := fun o => Aside0.mk (ModT.alloc [t, 5] base w o)
  obtain ⟨A0, c0, rfl⟩ := Kd.R_slice hd.2.2.1
  clear hd hC
  have HD2 := fun o => Aside0.mk (HD.out.box o)
  have HC2 := fun o => Aside0.mk (Kd.C_alloc HC.out o)
  by_cases k1 : k = 1
  · subst k1
    have hr : Aside0 (dskStep data s ⟨1, b, n⟩ = (wrCode data b, wrData data b, s)) := ⟨by unfold dskStep wrCode wrData; rw [if_pos rfl]; split <;> rfl⟩
    go_enter Try.func75, Try.ntmps75
    go_wp2_with (go_at_call 87; refine (disk_Write t rest base g _ s data b A c _ _ (HD2 _).out ht (HC2 _).out hc rfl (by omega)).mono ?_; rintro e w3 ⟨v', rfl, hd, hm⟩; have HD3 := Aside0.mk hd; have HM3 := Aside0.mk hm; clear hd hm)
    go_ret
    rw [hr.out]
    exact ⟨v', rfl, HD3.out, (HM0 _).out.trans HM3.out⟩
  by_cases k2 : k = 2
  · subst k2
    have hr : Aside0 (dskStep data s ⟨2, b, n⟩ = (0, data, data.length)) := ⟨by unfold dskStep; rw [if_neg k1, if_pos rfl]⟩
    go_enter Try.func75, Try.ntmps75
    go_wp2_with (go_at_call 88; refine (disk_Sync t rest base g _ s data _ (HD2 _).out ht).mono ?_; rintro e w3 ⟨v', rfl, hd, hm⟩; have HD3 := Aside0.mk hd; have HM3 := Aside0.mk hm; clear hd hm)
    go_ret
    rw [hr.out]
    exact ⟨v', rfl, HD3.out, (HM0 _).out.trans HM3.out⟩
  by_cases k3 : k = 3
  · subst k3
    have hgl : g < w.heap.size := hg.out
    have hgn : ¬ g = w.heap.size := by omega
    by_cases n0 : n < 0
    · have hr : Aside0 (dskStep data s ⟨3, b, n⟩ = (2, data, s)) := ⟨by unfold dskStep; rw [if_neg k1, if_neg k2, if_pos rfl, if_pos n0]⟩
      go_enter Try.func75, Try.ntmps75
      go_wp2
      go_quiet (fail)
      go_wp2
      go_ret
      rw [hr.out]
      exact ⟨_, rfl, (HD2 _).out.drewN _, (HM0 _).out.trans (ModT.drewN _ _ _ _)⟩
    by_cases n1 : (data.length : Int) < n
    · have hr : Aside0 (dskStep data s ⟨3, b, n⟩ = (2, data, s)) := ⟨by unfold dskStep; rw [if_neg k1, if_neg k2, if_pos rfl, if_neg n0, if_pos n1]⟩
      go_enter Try.func75, Try.ntmps75
      go_wp2
      go_quiet (fail)
      go_wp2
      go_ret
      rw [hr.out]
      exact ⟨_, rfl, (HD2 _).out.drewN _, (HM0 _).out.trans (ModT.drewN _ _ _ _)⟩
    obtain ⟨j, rfl⟩ : ∃ j : Nat, n = j := ⟨n.toNat, by omega⟩
    have hr : Aside0 (dskStep data s ⟨3, b, (j : Int)⟩ = (0, data.take j, j)) := ⟨by unfold dskStep; rw [if_neg k1, if_neg k2, if_pos rfl, if_neg n0, if_neg n1, Int.toNat_natCast]⟩
    have hj : j ≤ data.length := by omega
    go_enter Try.func75, Try.ntmps75
    go_wp2
    go_quiet (fail)
    go_wp2_with (go_at_call 89; refine (disk_Trim t rest base g _ s data j _ ((HD2 _).out.drewN _) ht hj).mono ?_; rintro e w3 ⟨v', rfl, hd, hm⟩; have HD3 := Aside0.mk hd; have HM3 := Aside0.mk hm; clear hd hm)
    go_ret
    rw [hr.out]
    exact ⟨v', rfl, HD3.out, ((HM0 _).out.trans (ModT.drewN _ _ _ _)).trans HM3.out⟩
  by_cases k4 : k = 4
  · subst k4
    by_cases n0 : n < 0
    · have hr : Aside0 (dskStep data s ⟨4, b, n⟩ = (2, data, s)) := ⟨by unfold dskStep; rw [if_neg k1, if_neg k2, if_neg k3, if_pos rfl, if_pos n0]⟩
      go_enter Try.func75, Try.ntmps75
      go_wp2
      go_ret
      rw [hr.out]
      exact ⟨_, rfl, (HD2 _).out, (HM0 _).out⟩
    obtain ⟨j, rfl⟩ : ∃ j : Nat, n = j := ⟨n.toNat, by omega⟩
    have hr : Aside0 (dskStep data s ⟨4, b, (j : Int)⟩ = (0, data.take (fallN s j data.length), fallN s j data.length)) := ⟨by unfold dskStep; rw [if_neg k1, if_neg k2, if_neg k3, if_pos rfl, if_neg n0, Int.toNat_natCast]⟩
    go_enter Try.func75, Try.ntmps75
    go_wp2_with (go_at_call 90; refine (disk_Fall t rest base g _ s data j _ (HD2 _).out ht (by omega)).mono ?_; rintro e w3 ⟨v', rfl, hd, hm⟩; have HD3 := Aside0.mk hd; have HM3 := Aside0.mk hm; clear hd hm)
    go_ret
    rw [hr.out]
    exact ⟨v', rfl, HD3.out, (HM0 _).out.trans HM3.out⟩
  have hr : Aside0 (dskStep data s ⟨k, b, n⟩ = (3, data, s)) := ⟨by unfold dskStep; rw [if_neg k1, if_neg k2, if_neg k3, if_neg k4]⟩
  go_enter Try.func75, Try.ntmps75
  go_wp2
  go_ret
  rw [hr.out]
  exact ⟨_, rfl, (HD2 _).out, (HM0 _).out⟩
end Go.Proofs.Ytnjidfgjldkkcaa.Q
/- store.row, walked. -/
namespace Go.Proofs.Ytnjidfgjldkkcaa.Q
open Go.RowKit Go.Proofs.YtnjidfgjldkkcaaW.PrintWords Go.Proofs.YtnjidfgjldkkcaaW.PrintLast Go.Proofs.YtnjidfgjldkkcaaW.PrintMore
/-- The row of a record; false: it is none. -/
def rowF (b : List Int) : S69 × Bool :=
  if rd b 0 < 1 ∨ 20 < rd b 0 ∨ b.length < (rd b 0).toNat + 1 ∨ (rd b 0).toNat + 21 < b.length then (z69, false)
  else (⟨strOfNums ((b.take ((rd b 0).toNat + 1)).drop 1), strOfNums (b.drop ((rd b 0).toNat + 1))⟩, true)
def RowEnd (w : World) (r : S69 × Bool) (e : Ending) (w' : World) : Prop := e = .returned (.tuple #[.agg #[.string r.1.f0, .string r.1.f1], .bool r.2]) ∧ Below w.heap.size w w'
set_option maxRecDepth 100000 in
set_option maxHeartbeats 8000000 in
theorem row_walk (A : Option Addr) (c : Nat) (b : List Int) (w : World) (hr : Kd.C (Kd.int .u8) w A b.length b) (hc : b.length ≤ c) (h0 : 0 < b.length) (hb : 0 ≤ rd b 0 ∧ rd b 0 ≤ 255) (hl : b.length ≤ 1000) :
    Calls Try.prog 76 #[.slice A b.length c] w (RowEnd w (rowF b)) := by
  have HR := Aside0.mk hr
  obtain ⟨ad, rfl, hx⟩ := Kd.at_int hr 0 (by omega) (by omega)
  obtain ⟨n, hn⟩ : ∃ n, n = rd b 0 := ⟨_, rfl⟩
  rw [← hn] at hb hx
  replace hn := Aside0.mk hn
  obtain ⟨n, rfl⟩ : ∃ m : Nat, n = m := ⟨n.toNat, by omega⟩
  have hxb : ad.block < w.heap.size := by have := World.block_lt_of_cell? w _ hx; rwa [add_block] at this
  have hx0 : w.cell? ad = some (.int .u8 (n : Int)) := by
    rw [show (0 : Int).toNat = 0 from rfl] at hx
    have : ad.add 0 = ad := by unfold Addr.add; rw [if_pos rfl]
    rwa [this] at hx
  clear hr hx
  have hc' := hc
  have hr0 : Aside0 (rowF b = if n < 1 ∨ 20 < n ∨ b.length < n + 1 ∨ n + 21 < b.length then (z69, false) else (⟨strOfNums ((b.take (n + 1)).drop 1), strOfNums (b.drop (n + 1))⟩, true)) := ⟨by
    unfold rowF
    rw [← hn.out, Int.toNat_natCast]
    by_cases h : n < 1 ∨ 20 < n ∨ b.length < n + 1 ∨ n + 21 < b.length
    · rw [if_pos h, if_pos (by omega)]
    · rw [if_neg h, if_neg (by omega)]⟩
  by_cases h1 : n < 1
  · have e : Aside0 (rowF b = (z69, false)) := ⟨by rw [hr0.out, if_pos (.inl h1)]⟩
    have h1' : (n : Int) < 1 := by omega
    go_enter Try.func76, Try.ntmps76
    go_wp2
    refine bodyPost_ret (results_ct rfl _ _ w.heap.size 69 #[.string (⟨#[]⟩ : ByteArray), .string (⟨#[]⟩ : ByteArray)] (0, 0) _ rfl (blk_new w _) Try.underlying69 rfl (by kernel_rfl)) rfl ?_
    rw [e.out]
    exact ⟨rfl, below_alloc (Below.refl _ _) _⟩
  by_cases h2 : 20 < n
  · have e : Aside0 (rowF b = (z69, false)) := ⟨by rw [hr0.out, if_pos (.inr (.inl h2))]⟩
    have h1' : ¬ (n : Int) < 1 := by omega
    have h2' : (20 : Int) < (n : Int) := by omega
    go_enter Try.func76, Try.ntmps76
    go_wp2
    refine bodyPost_ret (results_ct rfl _ _ w.heap.size 69 #[.string (⟨#[]⟩ : ByteArray), .string (⟨#[]⟩ : ByteArray)] (0, 0) _ rfl (blk_new w _) Try.underlying69 rfl (by kernel_rfl)) rfl ?_
    rw [e.out]
    exact ⟨rfl, below_alloc (Below.refl _ _) _⟩
  by_cases h3 : b.length < n + 1
  · have e : Aside0 (rowF b = (z69, false)) := ⟨by rw [hr0.out, if_pos (.inr (.inr (.inl h3)))]⟩
    have h1' : ¬ (n : Int) < 1 := by omega
    have h2' : ¬ (20 : Int) < (n : Int) := by omega
    have h3' : (b.length : Int) < (n : Int) + 1 := by omega
    go_enter Try.func76, Try.ntmps76
    go_wp2
    refine bodyPost_ret (results_ct rfl _ _ w.heap.size 69 #[.string (⟨#[]⟩ : ByteArray), .string (⟨#[]⟩ : ByteArray)] (0, 0) _ rfl (blk_new w _) Try.underlying69 rfl (by kernel_rfl)) rfl ?_
    rw [e.out]
    exact ⟨rfl, below_alloc (Below.refl _ _) _⟩
  by_cases h4 : n + 21 < b.length
  · have e : Aside0 (rowF b = (z69, false)) := ⟨by rw [hr0.out, if_pos (.inr (.inr (.inr h4)))]⟩
    have h1' : ¬ (n : Int) < 1 := by omega
    have h2' : ¬ (20 : Int) < (n : Int) := by omega
    have h3' : ¬ (b.length : Int) < (n : Int) + 1 := by omega
    have h4' : (n : Int) + 1 + 20 < (b.length : Int) := by omega
    go_enter Try.func76, Try.ntmps76
    go_wp2
    refine bodyPost_ret (results_ct rfl _ _ w.heap.size 69 #[.string (⟨#[]⟩ : ByteArray), .string (⟨#[]⟩ : ByteArray)] (0, 0) _ rfl (blk_new w _) Try.underlying69 rfl (by kernel_rfl)) rfl ?_
    rw [e.out]
    exact ⟨rfl, below_alloc (Below.refl _ _) _⟩
  obtain ⟨k, hk⟩ : ∃ k, Aside0 (k = strOfNums ((b.take (n + 1)).drop 1)) := ⟨_, ⟨rfl⟩⟩
  obtain ⟨u, hu⟩ : ∃ u, Aside0 (u = strOfNums (b.drop (n + 1))) := ⟨_, ⟨rfl⟩⟩
  have e : Aside0 (rowF b = (⟨k, u⟩, true)) := ⟨by rw [hr0.out, if_neg (by omega), ← hk.out, ← hu.out]⟩
  have h1' : ¬ (n : Int) < 1 := by omega
  have h2' : ¬ (20 : Int) < (n : Int) := by omega
  have h3' : ¬ (b.length : Int) < (n : Int) + 1 := by omega
  have h4' : ¬ (n : Int) + 1 + 20 < (b.length : Int) := by omega
  obtain ⟨W0, hW0⟩ : ∃ W0, W0 = w.alloc (.cells #[.string ⟨#[]⟩, .string ⟨#[]⟩] 69) := ⟨_, rfl⟩
  have hW : Below w.heap.size w W0 := hW0 ▸ below_alloc (Below.refl _ _) _
  have HW := Aside0.mk hW
  have hh0 : W0.heap[w.heap.size]? = some (.cells #[.string ⟨#[]⟩, .string ⟨#[]⟩] 69 (0, 0)) := hW0 ▸ blk_new w _
  have HH := Aside0.mk hh0
  have z0 : W0.cell? ⟨w.heap.size, 0, none⟩ = some (.string ⟨#[]⟩) := by rw [blk_cell hh0]; rfl
  have z1 : W0.cell? ⟨w.heap.size, 1, none⟩ = some (.string ⟨#[]⟩) := by rw [blk_cell hh0]; rfl
  have f0 := blk_frozen hh0 0
  have f1 := blk_frozen hh0 1
  have hm1 := Kd.C_mid (lo := 1) (hi := n + 1) (Kd.C_drew (Kd.C_below HR.out hW)) (by omega) (by omega) hc'
  rw [if_neg (show ¬ c = 1 by omega)] at hm1
  have hcv1 := Kd.C_string (P := Try.prog) (A := some (ad.add 1)) (n := n) (c := c - 1) (xs := (b.take (n + 1)).drop 1) Try.underlying36 Try.underlying5 Try.underlying9 (by
    have := hm1
    rw [show ((b.take (n + 1)).drop 1).length = n by rw [List.length_drop, List.length_take]; omega] at this
    exact this)
  have hm2 := Kd.C_drop (m := n + 1) (c := c) (Kd.C_drew (Kd.C_below HR.out hW)) (by omega) hc'
  have hcv2 := Kd.C_string (P := Try.prog) (n := b.length - (n + 1)) (c := c - (n + 1)) (xs := b.drop (n + 1)) Try.underlying36 Try.underlying5 Try.underlying9 (by
    have := hm2
    rw [List.length_drop] at this
    exact this)
  rw [← hk.out] at hcv1
  rw [← hu.out] at hcv2
  have ea1 : ad.add 1 = ⟨ad.block, ad.off + 1, none⟩ := by unfold Addr.add; rw [if_neg (by omega)]
  have ea2 : ad.add (n + 1) = ⟨ad.block, ad.off + (n + 1), none⟩ := by unfold Addr.add; rw [if_neg (by omega)]
  rw [ea1] at hcv1
  have hdv1 : (convert 36 9 (.slice (some ⟨ad.block, ad.off + 1, none⟩) n (c - 1))).run Try.prog W0.drew = .ok (.string k) W0.drew := hcv1
  have hdv2 : (convert 36 9 (.slice (if c = n + 1 then some ad else some ⟨ad.block, ad.off + (n + 1), none⟩) (b.length - (n + 1)) (c - (n + 1)))).run Try.prog W0.drew = .ok (.string u) W0.drew := by
    have := hcv2
    rw [show (Kd.int .u8).sz = 1 from rfl, Nat.mul_one, Option.map_some, ea2] at this
    exact this
  clear hcv1 hcv2 ea1 ea2 hm1 hm2 hW hh0
  have a1 : (1 : Int) ≤ (n : Int) + 1 := by omega
  have a2 : (n : Int) + 1 ≤ (b.length : Int) := by omega
  have a3 : (0 : Int) ≤ (n : Int) + 1 := by omega
  have a4 : IntKind.i64.wrap ((n : Int) + 1) = (n : Int) + 1 := IntWalk.i64_in _ (by omega)
  have a5 : ((n : Int) + 1).toNat = n + 1 := by omega
  have a6 : ¬ c = 1 := by omega
  have a7 : n + 1 ≤ c := by omega
  have a8 : (n : Int) + 1 ≤ (c : Int) := by omega
  go_enter Try.func76, Try.ntmps76
  go_wp2
  rw [← hW0]
  clear hW0
  go_still_tail 11, (by kernel_rfl)
  change wpList _ _ _ _ _ W0.drew
  have y0 : W0.drew.cell? ⟨w.heap.size, 0, none⟩ = some (.string ⟨#[]⟩) := z0
  have y1 : W0.drew.cell? ⟨w.heap.size, 1, none⟩ = some (.string ⟨#[]⟩) := z1
  have g0 : W0.drew.frozen? ⟨w.heap.size, 0, none⟩ = false := f0
  have g1 : W0.drew.frozen? ⟨w.heap.size, 1, none⟩ = false := f1
  have HH' : Aside0 (W0.drew.heap[w.heap.size]? = some (.cells #[.string ⟨#[]⟩, .string ⟨#[]⟩] 69 (0, 0))) := HH
  have HW' : Aside0 (Below w.heap.size w W0.drew) := ⟨below_drew HW.out⟩
  clear z0 z1 f0 f1 HH HW hdv1 hdv2
  generalize W0.drew = W1 at *
  go_wp2
  all_goals
    refine bodyPost_ret (results_ct rfl _ _ w.heap.size 69 #[.string k, .string u] (0, 0) _ rfl (by rw [heap_set1 (heap_set1 HH'.out)]; rfl) Try.underlying69 rfl (by kernel_rfl)) rfl ?_
    rw [e.out]
    exact ⟨rfl, below_set (below_set HW'.out (Nat.le_refl _)) (Nat.le_refl _)⟩
end Go.Proofs.Ytnjidfgjldkkcaa.Q
/- store.read, store.Recover, walked. -/
namespace Go.Proofs.Ytnjidfgjldkkcaa.Q
open Go.RowKit Go.Proofs.YtnjidfgjldkkcaaW.PrintWords Go.Proofs.YtnjidfgjldkkcaaW.PrintLast Go.Proofs.YtnjidfgjldkkcaaW.PrintMore
/-- The rows of records; none: one of these is no row. -/
def rowsOf : List S69 → List (List Int) → Option (List S69)
  | acc, [] => some acc
  | acc, r :: t => if (rowF r).2 = true then rowsOf (acc ++ [(rowF r).1]) t else none
/-- The table of batches. -/
def recF : List S69 → List (List (List Int)) → Option (List S69)
  | t, [] => some t
  | t, m :: rest => match rowsOf [] m with
    | none => none
    | some cs => if 40 < (changedF t cs).length then none else recF (changedF t cs) rest
theorem recF_nil (t : List S69) : recF t [] = some t := rfl
theorem recF_cons (t : List S69) (m : List (List Int)) (rest : List (List (List Int))) : recF t (m :: rest) = match rowsOf [] m with | none => none | some cs => if 40 < (changedF t cs).length then none else recF (changedF t cs) rest := rfl
def readS (b : List Int) : List S69 × Int × Int := match recF [] (readF b (b.length + 1) [] [] 0 0).1 with
  | none => ([], 0, 4)
  | some t => (t, ((readF b (b.length + 1) [] [] 0 0).2 : Int), 0)
/-- A record that a file may have. -/
def GoodRec (r : List Int) : Prop := 1 ≤ r.length ∧ r.length ≤ 60 ∧ ∀ x ∈ r, 0 ≤ x ∧ x ≤ 255
theorem firstF_good (b : List Int) (hb : ∀ x ∈ b, 0 ≤ x ∧ x ≤ 255) (h : ¬ (firstF b).2.2 = 0) : GoodRec (firstF b).1 := by
  unfold firstF at h ⊢
  by_cases hc : (headOk b && sumOk b) = true
  · rw [if_pos hc]
    rw [Bool.and_eq_true] at hc
    have h1 := hc.1
    have h2 := hc.2
    unfold headOk at h1
    unfold sumOk at h2
    simp only [Bool.and_eq_true, decide_eq_true_eq] at h1 h2
    have hk : kOf b = 2 + (rd b 0).toNat := rfl
    refine ⟨?_, ?_, fun x hx => hb x (List.mem_of_mem_take (List.mem_of_mem_drop hx))⟩
    · show 1 ≤ ((b.take (kOf b)).drop 2).length
      rw [List.length_drop, List.length_take]; omega
    · show ((b.take (kOf b)).drop 2).length ≤ 60
      rw [List.length_drop, List.length_take]; omega
  · rw [if_neg hc] at h
    exact absurd rfl h
theorem readF_good (b : List Int) (hb : ∀ x ∈ b, 0 ≤ x ∧ x ≤ 255) : ∀ (f : Nat) (bs : List (List (List Int))) (ba : List (List Int)) (used n : Nat), (∀ x ∈ bs, ∀ r ∈ x, GoodRec r) → (∀ r ∈ ba, GoodRec r) →
    ∀ x ∈ (readF b f bs ba used n).1, ∀ r ∈ x, GoodRec r
  | 0, bs, _, _, _, h, _ => h
  | f + 1, bs, ba, used, n, h, h2 => by
    unfold readF
    by_cases h1 : (firstF (b.drop n)).2.2 = 0
    · rw [if_pos h1]; exact h
    rw [if_neg h1]
    have hg := firstF_good (b.drop n) (fun x hx => hb x (List.mem_of_mem_drop hx)) h1
    have hg2 : ∀ r ∈ ba ++ [(firstF (b.drop n)).1], GoodRec r := by
      intro r hr
      rw [List.mem_append, List.mem_singleton] at hr
      rcases hr with hr | rfl
      · exact h2 r hr
      · exact hg
    by_cases h3 : (firstF (b.drop n)).2.1 = true
    · rw [if_pos h3]
      refine readF_good b hb f _ _ _ _ ?_ (by simp)
      intro x hx
      rw [List.mem_append, List.mem_singleton] at hx
      rcases hx with hx | rfl
      · exact h x hx
      · exact hg2
    · rw [if_neg h3]
      exact readF_good b hb f _ _ _ _ h hg2
theorem readF_len (b : List Int) (M : Nat) : ∀ (f : Nat) (bs : List (List (List Int))) (ba : List (List Int)) (used n : Nat), (∀ x ∈ bs, x.length ≤ M) → ba.length + f ≤ M →
    (readF b f bs ba used n).1.length ≤ bs.length + f ∧ ∀ x ∈ (readF b f bs ba used n).1, x.length ≤ M
  | 0, bs, ba, used, n, h, _ => ⟨Nat.le_refl _, h⟩
  | f + 1, bs, ba, used, n, h, hm => by
    unfold readF
    by_cases h1 : (firstF (b.drop n)).2.2 = 0
    · rw [if_pos h1]; exact ⟨by simp, h⟩
    rw [if_neg h1]
    by_cases h2 : (firstF (b.drop n)).2.1 = true
    · rw [if_pos h2]
      have := readF_len b M f (bs ++ [ba ++ [(firstF (b.drop n)).1]]) [] (n + (firstF (b.drop n)).2.2) (n + (firstF (b.drop n)).2.2) (fun x hx => by
        rw [List.mem_append, List.mem_singleton] at hx
        rcases hx with hx | rfl
        · exact h x hx
        · rw [List.length_append, List.length_singleton]; omega) (by simp; omega)
      rw [List.length_append, List.length_singleton] at this
      exact ⟨by omega, this.2⟩
    · rw [if_neg h2]
      have := readF_len b M f bs (ba ++ [(firstF (b.drop n)).1]) used (n + (firstF (b.drop n)).2.2) h (by rw [List.length_append, List.length_singleton]; omega)
      exact ⟨by omega, this.2⟩
def ReadEnd (w : World) (r : List S69 × Int × Int) (e : Ending) (w' : World) : Prop := ∃ v, e = .returned (.tuple #[v, .int .i64 r.2.1, .int .i64 r.2.2]) ∧ k69.R 69 w' w.heap.size (fun _ => True) v r.1 ∧ Below w.heap.size w w'
theorem rdL5_at' {l : List (List (List Int))} {i : Nat} (h : i < l.length) : rd_L5 l (i : Int) = l[i] := by
  simp [rd_L5, List.getD_eq_getElem?_getD, List.getElem?_eq_getElem h]
theorem rdL4_at' {l : List (List Int)} {i : Nat} (h : i < l.length) : rd_L4 l (i : Int) = l[i] := by
  simp [rd_L4, List.getD_eq_getElem?_getD, List.getElem?_eq_getElem h]
set_option maxRecDepth 100000 in
set_option maxHeartbeats 8000000 in
theorem store_read (A : Option Addr) (c : Nat) (b : List Int) (w : World) (hr : Kd.C (Kd.int .u8) w A b.length b) (hc : b.length ≤ c) (hl : b.length ≤ 1300) (hb : ∀ x ∈ b, 0 ≤ x ∧ x ≤ 255) :
    Calls Try.prog 59 #[.slice A b.length c] w (ReadEnd w (readS b)) := by
  have H56 := Aside0.mk (read_walk A c b w hr hc (by omega))
  have hgood := readF_good b hb (b.length + 1) [] [] 0 0 (by simp) (by simp)
  have hlen := readF_len b 2000 (b.length + 1) [] [] 0 0 (by simp) (by simp; omega)
  obtain ⟨q, hq⟩ : ∃ q, q = readF b (b.length + 1) [] [] 0 0 := ⟨_, rfl⟩
  have hres : Aside0 (readS b = match recF [] q.1 with | none => ([], 0, 4) | some t => (t, (q.2 : Int), 0)) := ⟨by unfold readS; rw [← hq]⟩
  rw [← hq] at H56 hgood hlen
  obtain ⟨bs, used⟩ := q
  simp only at H56 hgood hlen
  have HG := Aside0.mk hgood
  have HL := Aside0.mk hlen
  clear hgood hlen hq hr hb
  go_enter Try.func59, Try.ntmps59
  go_wp2_with (go_at_call 56; refine H56.out.mono ?_; rintro e w1 ⟨v, rfl, ho, hb⟩; obtain ⟨A5, c5, rfl⟩ := Kd.R_slice ho; have HO5 := Aside0.mk (Kd.R_reads' ho); have HB1 := Aside0.mk hb; clear ho hb)
  have hbl : bs.length ≤ 2000 := by have := HL.out.1; simp only [List.length_nil] at this; omega
  go_loopw [7, 22] (fun v7 v22 wr => ∃ (i : Nat) (t : List S69), v22 = .int .i64 i ∧ Aside0 (i ≤ bs.length) ∧ Aside0 (recF t (bs.drop i) = recF [] bs) ∧ Aside0 (t.length ≤ 40) ∧ Aside0 (k69.R 69 wr w1.heap.size (fun _ => True) v7 t) ∧ Aside0 (Below w1.heap.size w1 wr)) (fun _ v22 _ => bs.length - (intOf v22).toNat)
  case atStart => exact ⟨0, [], rfl, ⟨Nat.zero_le _⟩, ⟨rfl⟩, ⟨by simp⟩, ⟨Kd.R_nil _ _ _ _ _⟩, ⟨Below.refl _ _⟩⟩
  case round =>
    obtain ⟨i, t, rfl, hi, hs, htl, HT, HB⟩ := hrel
    have hil := hi.out
    by_cases hlt : i < bs.length
    · obtain ⟨ad, A0, c0, rfl, x0w, l0, g0⟩ := at_L5 HO5.out.2.2 (i : Int) (by omega) (by omega)
      have x0 := (HB.out.cell (World.block_lt_of_cell? w1 _ x0w)).trans x0w
      clear x0w
      rw [Int.toNat_natCast] at x0
      obtain ⟨m, hm⟩ : ∃ m, m = rd_L5 bs (i : Int) := ⟨_, rfl⟩
      rw [← hm] at x0 l0 g0
      have hst : Aside0 (recF t (m :: bs.drop (i + 1)) = recF [] bs) := ⟨by rw [hm, rdL5_at' hlt, ← List.drop_eq_getElem_cons hlt]; exact hs.out⟩
      have hmm : m ∈ bs := by rw [hm, rdL5_at' hlt]; exact List.getElem_mem _
      have HGm : Aside0 (∀ r ∈ m, GoodRec r) := ⟨HG.out m hmm⟩
      have hml : m.length ≤ 2000 := HL.out.2 m hmm
      have G0 := Aside0.mk g0
      obtain ⟨A7, c7, rfl⟩ := Kd.R_slice HT.out
      clear hm hmm g0 hs
      go_wp2
      go_loopw [10, 28] (fun v10 v28 ws => ∃ (j : Nat) (ch : List S69), v28 = .int .i64 j ∧ Aside0 (j ≤ m.length) ∧ Aside0 (rowsOf ch (m.drop j) = rowsOf [] m) ∧ Aside0 (ch.length ≤ j) ∧ Aside0 (k69.R 69 ws w1.heap.size (fun _ => True) v10 ch) ∧ Aside0 (k69.R 69 ws w1.heap.size (fun k => True ∧ some k ≠ v10.ownBlock) (.slice A7 t.length c7) t) ∧ Aside0 (Below w1.heap.size w1 ws)) (fun _ v28 _ => m.length - (intOf v28).toNat)
      case atStart => exact ⟨0, [], rfl, ⟨Nat.zero_le _⟩, ⟨rfl⟩, ⟨Nat.le_refl _⟩, ⟨Kd.R_nil _ _ _ _ _⟩, ⟨Kd.R_apart_nil HT.out⟩, HB⟩
      case round =>
        obtain ⟨j, ch, rfl, hj, hrs, hcl, HC1, HT1, HBs⟩ := hrel
        have hjl := hj.out
        by_cases hjt : j < m.length
        · obtain ⟨ad2, A1, c1, rfl, y0, l1, g1⟩ := at_L4 (Kd.C_below G0.out HBs.out) (j : Int) (by omega) (by omega)
          rw [Int.toNat_natCast] at y0
          obtain ⟨r, hrd⟩ : ∃ r, r = rd_L4 m (j : Int) := ⟨_, rfl⟩
          rw [← hrd] at y0 l1 g1
          have hrm : r ∈ m := by rw [hrd, rdL4_at' hjt]; exact List.getElem_mem _
          have hgr := HGm.out r hrm
          have hstep : Aside0 ((if (rowF r).2 = true then rowsOf (ch ++ [(rowF r).1]) (m.drop (j + 1)) else none) = rowsOf [] m) := ⟨by
            rw [← hrs.out, List.drop_eq_getElem_cons hjt, ← rdL4_at' hjt, ← hrd]
            rfl⟩
          obtain ⟨⟨⟨k, u⟩, ok⟩, hro⟩ : ∃ z, Aside0 (z = rowF r) := ⟨_, ⟨rfl⟩⟩
          rw [← hro.out] at hstep
          have hr0 : 0 ≤ rd r 0 ∧ rd r 0 ≤ 255 := by
            have h0 : 0 < r.length := by have := hgr.1; omega
            have : rd r ((0 : Nat) : Int) = r[0] := by unfold rd; rw [Int.toNat_natCast, List.getD_eq_getElem?_getD, List.getElem?_eq_getElem h0]; rfl
            rw [show (0 : Int) = ((0 : Nat) : Int) from rfl, this]
            exact hgr.2.2 _ (List.getElem_mem h0)
          have hcall : Aside0 (∀ W, Below wr.heap.size wr W → Calls Try.prog 76 #[.slice A1 r.length c1] W (RowEnd W (⟨k, u⟩, ok))) := ⟨fun W hW => hro.out ▸ row_walk A1 c1 r W (Kd.C_below g1 hW) l1 (by have := hgr.1; omega) hr0 (by have := hgr.2.1; omega)⟩
          clear hrd hrm hgr g1 hr0
          cases ok
          · have hno : Aside0 (readS b = ([], 0, 4)) := ⟨by
              have h1 := hstep.out
              rw [if_neg (by simp)] at h1
              have h2 := hst.out
              rw [recF_cons, ← h1] at h2
              rw [hres.out]
              simp only at h2 ⊢
              rw [← h2]⟩
            go_wp2_with (go_at_call 76; refine (hcall.out _ (Below.refl _ _)).mono ?_; rintro e w3 ⟨rfl, hbl⟩; have HB3 := Aside0.mk (below_step HBs.out hbl); clear hbl)
            go_ret3
            rw [hno.out]
            exact ⟨_, rfl, Kd.R_nil _ _ _ _ _, below_step HB1.out (below_alloc HB3.out _)⟩
          · have hst2 : Aside0 (rowsOf (ch ++ [⟨k, u⟩]) (m.drop (j + 1)) = rowsOf [] m) := ⟨by have := hstep.out; rw [if_pos rfl] at this; exact this⟩
            go_wp2_with (first | (go_at_call 76; refine (hcall.out _ (Below.refl _ _)).mono ?_; rintro e w3 ⟨rfl, hbl⟩; have HB3 := Aside0.mk (below_alloc (below_step HBs.out hbl) (.cells #[.string k, .string u] 69)); have HC3 := Aside0.mk (Kd.R_alloc (Kd.R_below HC1.out hbl) (.cells #[.string k, .string u] 69)); have HT3 := Aside0.mk (Kd.R_alloc (Kd.R_below HT1.out hbl) (.cells #[.string k, .string u] 69)); clear hbl) | ((with_reducible refine gate_builtin (b := .append) (xs := #[.tmp 39, .tmp 41]) rfl ?_); at_builtin; refine Kd.R_append k69 (w0 := w1) w1.heap.size rfl (.tmp 39) (.tmp 41) 24 69 (.agg #[.string ⟨#[]⟩, .string ⟨#[]⟩]) 32 rfl Try.underlying24 info69 rfl (by decide) (by omega) u10 ch ⟨k, u⟩ [.string k, .string u] (fun _ => True) (fun _ => False) rfl (by first | rfl | (go_simp; done) | (go_simp; rfl)) (k69_mkM _ _ _ ⟨k, u⟩) (fun _ h => h.elim) (fun _ _ => trivial) HC3.out HB3.out (below_size HB3.out) (by have := hcl.out; omega) ?_; intro v4 w4 ho hb hg hat; obtain ⟨A4, c4, rfl⟩ := Kd.R_slice ho; rw [List.length_append, List.length_singleton] at ho hat; have HC4 := Aside0.mk ho; have HB4 := Aside0.mk hb; have HT4 := Aside0.mk (Kd.R_after HT3.out hg hat); clear ho hb hg hat))
            go_roundw
            case rel => exact ⟨j + 1, ch ++ [⟨k, u⟩], by simp, ⟨hjt⟩, hst2, ⟨by have := hcl.out; rw [List.length_append, List.length_singleton]; omega⟩, HC4, HT4, HB4⟩
            case measure => simp [intOf]; omega
        · have hro : Aside0 (rowsOf [] m = some ch) := ⟨by have := hrs.out; rw [List.drop_of_length_le (by omega)] at this; exact this.symm⟩
          have hcl2 : ch.length ≤ 2000 := by have := hcl.out; omega
          have htl2 := htl.out
          obtain ⟨A10, c10, rfl⟩ := Kd.R_slice HC1.out
          obtain ⟨ys, hys⟩ : ∃ ys, Aside0 (ys = changedF t ch) := ⟨_, ⟨rfl⟩⟩
          have hch : Aside0 (Calls Try.prog 49 #[.slice A7 t.length c7, .slice A10 ch.length c10] wr fun e w' => ∃ v', e = .returned v' ∧ k69.R 69 w' wr.heap.size (fun _ => True) v' ys ∧ Below wr.heap.size wr w') := ⟨hys.out ▸ changed_walk A7 A10 c7 c10 t ch wr (Kd.R_reads' HT1.out).2.2 (Kd.R_reads' HT1.out).2.1 (Kd.R_reads' HC1.out).2.2 (Kd.R_reads' HC1.out).2.1 (by omega)⟩
          have hst2 : Aside0 ((if 40 < ys.length then none else recF ys (bs.drop (i + 1))) = recF [] bs) := ⟨by
            have h2 := hst.out
            rw [recF_cons, hro.out] at h2
            rw [hys.out]
            exact h2⟩
          by_cases h40 : 40 < ys.length
          · have hno : Aside0 (readS b = ([], 0, 4)) := ⟨by
              have h2 := hst2.out
              rw [if_pos h40] at h2
              rw [hres.out, ← h2]⟩
            go_wp2_with (go_at_call 49; refine hch.out.mono ?_; rintro e w3 ⟨v3, rfl, ho, hbl⟩; obtain ⟨A3, c3, rfl⟩ := Kd.R_slice ho; have HB3 := Aside0.mk (below_step HBs.out hbl); clear ho hbl)
            go_ret3
            rw [hno.out]
            exact ⟨_, rfl, Kd.R_nil _ _ _ _ _, below_step HB1.out HB3.out⟩
          · have hst3 : Aside0 (recF ys (bs.drop (i + 1)) = recF [] bs) := ⟨by have := hst2.out; rw [if_neg h40] at this; exact this⟩
            go_wp2_with (go_at_call 49; refine hch.out.mono ?_; rintro e w3 ⟨v3, rfl, ho, hbl⟩; obtain ⟨A3, c3, rfl⟩ := Kd.R_slice ho; have HO3 := Aside0.mk (Kd.R_lower ho HBs.out.size); have HB3 := Aside0.mk (below_step HBs.out hbl); clear ho hbl)
            go_roundw
            case rel => exact ⟨i + 1, ys, by simp, ⟨hlt⟩, hst3, ⟨by omega⟩, HO3, HB3⟩
            case measure => simp [intOf]; omega
    · have hyes : Aside0 (readS b = (t, (used : Int), 0)) := ⟨by
        have h2 := hs.out
        rw [List.drop_of_length_le (by omega)] at h2
        rw [recF_nil] at h2
        rw [hres.out, ← h2]⟩
      go_wp2
      go_ret3
      rw [hyes.out]
      exact ⟨_, rfl, Kd.R_lower HT.out HB1.out.size, below_step HB1.out HB.out⟩
def recoverF (b : List Int) : List S69 × Int × Int := if 1200 < b.length then ([], 0, 1) else readS b
def bytesOk (b : List Int) : Bool := b.all fun x => decide (0 ≤ x ∧ x ≤ 255)
def store_Recover.f (b : List Int) : Option (List S69 × Int × Int) := if bytesOk b = true then some (recoverF b) else none
theorem bytesOk_of {b : List Int} (h : bytesOk b = true) : ∀ x ∈ b, 0 ≤ x ∧ x ≤ 255 := fun x hx => by
  have := List.all_eq_true.1 h x hx
  simpa using this
theorem of_bytesOk {b : List Int} (h : ∀ x ∈ b, 0 ≤ x ∧ x ≤ 255) : bytesOk b = true := List.all_eq_true.2 fun x hx => by
  have := h x hx
  simpa using this
set_option maxRecDepth 100000 in
set_option maxHeartbeats 8000000 in
theorem recover_walk (A : Option Addr) (c : Nat) (b : List Int) (w : World) (hr : Kd.C (Kd.int .u8) w A b.length b) (hc : b.length ≤ c) (hb : ∀ x ∈ b, 0 ≤ x ∧ x ≤ 255) :
    Calls Try.prog 36 #[.slice A b.length c] w (ReadEnd w (recoverF b)) := by
  by_cases h : 1200 < b.length
  · have e : Aside0 (recoverF b = ([], 0, 1)) := ⟨by unfold recoverF; rw [if_pos h]⟩
    go_enter Try.func36, Try.ntmps36
    go_wp2
    go_ret3
    rw [e.out]
    exact ⟨_, rfl, Kd.R_nil _ _ _ _ _, Below.refl _ _⟩
  · have e : Aside0 (recoverF b = readS b) := ⟨by unfold recoverF; rw [if_neg h]⟩
    have H := Aside0.mk (store_read A c b w hr hc (by omega) hb)
    clear hr hb
    go_enter Try.func36, Try.ntmps36
    go_wp2_with (go_at_call 59; refine H.out.mono ?_; rintro e w1 ⟨v, rfl, ho, hb⟩; have HO := Aside0.mk ho; have HB := Aside0.mk hb; clear ho hb)
    go_ret3
    rw [e.out]
    exact ⟨_, rfl, HO.out, HB.out⟩
theorem store_Recover.calls (A0 : Option Addr) (c0 : Nat) (l0 : List Int) (r1 : List S69) (r2 : Int) (r3 : Int) (w : World) (hr0 : Kd.C (Kd.int .u8) w A0 l0.length l0) (hc0 : l0.length ≤ c0) (h : store_Recover.f l0 = some (r1, r2, r3)) :
    Calls Try.prog 36 #[.slice A0 l0.length c0] w fun e w' => ∃ v0_ : Value, e = .returned (.tuple #[v0_, .int .i64 r2, .int .i64 r3]) ∧ k69.R 69 w' w.heap.size (fun _ => True) v0_ r1 ∧ Below w.heap.size w w' := by
  unfold store_Recover.f at h
  by_cases hb : bytesOk l0 = true
  · rw [if_pos hb] at h
    have h' := Option.some.inj h
    have := recover_walk A0 c0 l0 w hr0 hc0 (bytesOk_of hb)
    rw [h'] at this
    exact this
  · rw [if_neg hb] at h; cases h
end Go.Proofs.Ytnjidfgjldkkcaa.Q
