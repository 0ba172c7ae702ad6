/- Texts of this claim, laid together: QNx1, QRn, QNl1, PureRowsNexts, QRa2, PlNext, QFt, PlSet, QRf, PureStoreRecovers. -/
import Derived.LoopTactic
import Derived.Lib.Hide
import Derived.RowKit3
import Derived.Laws.AppendOwn
import Derived.StillTailTactics
import Derived.IntWalk
import Derived.Test.YtnjidfgjldkkcaaMStoreRecovers2
-- Written for this seat by a program of its session (xp.py over the kit's printer).
namespace Go.Proofs.Ytnjidfgjldkkcaa.Q
open Go.RowKit Go.Proofs.YtnjidfgjldkkcaaW.PrintWords Go.Proofs.YtnjidfgjldkkcaaW.PrintLast Go.Proofs.YtnjidfgjldkkcaaW.PrintMore
attribute [local go_sem] max2_int min2_int max_two min_two max_three min_three max_four min_four xq_geq xq_leq xq_gtr   -- for this text's walks alone
set_option linter.unusedVariables false
set_option linter.unusedSimpArgs false

/-! ### rows_Next: function 16 -/
def rows_Next.l0 : Nat → ByteArray → Option (ByteArray)
  | 0, _ => none
  | k + 1, x0 => (strings_HasSuffix.f x0 (⟨#[255]⟩ : ByteArray)).bind fun t101 => (if t101 = true then (if 0 ≤ (wrap64 ((x0.size : Int) - 1)) then (if (wrap64 ((x0.size : Int) - 1)) ≤ (x0.size : Int) then (rows_Next.l0 k (x0.extract 0 ((wrap64 ((x0.size : Int) - 1)) : Int).toNat)) else (none)) else (none)) else (if x0.toList = ([] : List UInt8) then (some (⟨#[]⟩ : ByteArray)) else (if 0 ≤ (wrap64 ((x0.size : Int) - 1)) then (if (wrap64 ((x0.size : Int) - 1)) ≤ (x0.size : Int) then (if (wrap64 ((x0.size : Int) - 1)) < (x0.size : Int) then ((some (([((bt x0 (wrap64 ((x0.size : Int) - 1))) + 1) % 256] : List Int) : List Int)).bind fun y102 => (if (x0.extract 0 ((wrap64 ((x0.size : Int) - 1)) : Int).toNat).size + (strOfNums y102).size ≤ 9223372036854775807 then (some ((x0.extract 0 ((wrap64 ((x0.size : Int) - 1)) : Int).toNat) ++ (strOfNums y102))) else (none))) else (none)) else (none)) else (none))))
def rows_Next.f (k : Nat) (a0 : ByteArray) : Option (ByteArray) := rows_Next.l0 k a0
theorem rows_Next.mono_l : ∀ k, (∀ y0, LeO (rows_Next.l0 k y0) (rows_Next.l0 (k + 1) y0))
  | 0 => fun _ r h => by simp [rows_Next.l0] at h
  | k + 1 => by
    have ih0 := rows_Next.mono_l k
    · intro y0
      unfold rows_Next.l0
      repeat' first
      | (with_reducible exact ih0 _)
      | (with_reducible exact LeO.refl _)
      | (with_reducible exact LeO.none _)
      | (with_reducible refine LeO.ite ?_ ?_)
      | (with_reducible refine LeO.bind ?_ (fun _ => ?_))
      | exact ih0 _
      | exact LeO.none _
      | refine LeO.ite ?_ ?_
      | refine LeO.bind ?_ (fun _ => ?_)
theorem rows_Next.mono : ∀ a0 k, LeO (rows_Next.f k a0) (rows_Next.f (k + 1) a0) := by
  intro a0 k
  have ih0 := rows_Next.mono_l k
  unfold rows_Next.f
  repeat' first
      | (with_reducible exact ih0 _)
      | (with_reducible exact LeO.refl _)
      | (with_reducible exact LeO.none _)
      | (with_reducible refine LeO.ite ?_ ?_)
      | (with_reducible refine LeO.bind ?_ (fun _ => ?_))
      | exact ih0 _
      | exact LeO.none _
      | refine LeO.ite ?_ ?_
      | refine LeO.bind ?_ (fun _ => ?_)
def rows_Next.T6 : Bool × List (List Nat × List Nat) := (true, [([], []), ([], []), ([0, 1], [0, 1]), ([], []), ([], []), ([3, 4], [3, 4]), ([5], [5]), ([6], [6]), ([7], [7]), ([2, 8], [2, 8]), ([9, 0, 1, 2, 3, 4, 5, 6, 7, 8, 9], [9])])
def rows_Next.B6 : List Nat := [0, 0, 3, 0, 0, 24, 56, 120, 248, 511, 1023]
theorem rows_Next.tab6 : rtab .any (opsOf Try.f16 6) = rows_Next.T6 := by kernel_rfl
theorem rows_Next.bits6 : waitsOk rows_Next.T6.2 rows_Next.B6 = true := by kernel_rfl
set_option maxHeartbeats 8000000 in
set_option maxRecDepth 100000 in
theorem rows_Next.calls (k : Nat) (a0 : ByteArray) (r : ByteArray) (w : World) (h : rows_Next.f k a0 = some r) :
    Calls Try.prog 16 #[.string a0] w fun e w' => e = .returned (.string r) ∧ Below w.heap.size w w' := by
  have HB := Aside0.mk (Below.refl w.heap.size w)
  have H : (rows_Next.l0 k a0) = some r := h
  clear h
  have H' := Aside0.mk H
  clear H
  go_enter Try.func16, Try.ntmps16
  go_wp2
  go_loopg [0] k (fun kq v0 w' => ∃ (x0_1 : ByteArray), v0 = .string x0_1 ∧ Aside0 (rows_Next.l0 kq x0_1 = some r) ∧ Aside0 (kq ≤ k) ∧ Aside0 (Below w.heap.size w w'))
  case atStart => exact ⟨(a0), (by first | rfl | (simp; done) | (simp [*]; done)), H', ⟨Nat.le_refl _⟩, ⟨by repeat (first | (with_reducible first | exact HB.out | apply below_alloc | apply pw_below_drewN | apply below_drew1) | exact HB.out)⟩⟩
  case round =>
    clear H'
    try clear c1
    obtain ⟨x0_1, rfl, HA, HK1, HB⟩ := hrel
    cases gk with
    | zero => exact absurd HA.out (by simp [rows_Next.l0])
    | succ k1 =>
      have H := HA.out
      clear HA
      simp only [rows_Next.l0] at H
      replace H := Option.bind_eq_some_iff.mp H
      obtain ⟨t101, A20, H⟩ := H
      replace H : (if t101 = true then (if 0 ≤ (wrap64 ((x0_1.size : Int) - 1)) then (if (wrap64 ((x0_1.size : Int) - 1)) ≤ (x0_1.size : Int) then (rows_Next.l0 k1 (x0_1.extract 0 ((wrap64 ((x0_1.size : Int) - 1)) : Int).toNat)) else (none)) else (none)) else (if x0_1.toList = ([] : List UInt8) then (some (⟨#[]⟩ : ByteArray)) else (if 0 ≤ (wrap64 ((x0_1.size : Int) - 1)) then (if (wrap64 ((x0_1.size : Int) - 1)) ≤ (x0_1.size : Int) then (if (wrap64 ((x0_1.size : Int) - 1)) < (x0_1.size : Int) then ((some (([((bt x0_1 (wrap64 ((x0_1.size : Int) - 1))) + 1) % 256] : List Int) : List Int)).bind fun y102 => (if (x0_1.extract 0 ((wrap64 ((x0_1.size : Int) - 1)) : Int).toNat).size + (strOfNums y102).size ≤ 9223372036854775807 then (some ((x0_1.extract 0 ((wrap64 ((x0_1.size : Int) - 1)) : Int).toNat) ++ (strOfNums y102))) else (none))) else (none)) else (none)) else (none)))) = some r := H
      have A2 := Aside0.mk A20
      clear A20
      by_cases c3 : t101 = true
      · subst c3
        have H1 : (if 0 ≤ (wrap64 ((x0_1.size : Int) - 1)) then (if (wrap64 ((x0_1.size : Int) - 1)) ≤ (x0_1.size : Int) then (rows_Next.l0 k1 (x0_1.extract 0 ((wrap64 ((x0_1.size : Int) - 1)) : Int).toNat)) else (none)) else (none)) = some r := by rw [if_pos rfl] at H; exact H
        clear H
        have H := H1
        clear H1
        obtain ⟨ji4, hji4⟩ : ∃ j_ : Int, (wrap64 ((x0_1.size : Int) - 1)) = j_ := ⟨_, rfl⟩
        replace H : (if 0 ≤ (ji4) then (if (ji4) ≤ (x0_1.size : Int) then (rows_Next.l0 k1 (x0_1.extract 0 ((ji4) : Int).toNat)) else (none)) else (none)) = some r := by first | (rw [hji4] at H; exact H) | (simp only [hji4] at H ⊢; exact H)
        (try rw [hji4] at A2)
        have hji4w : (IntKind.i64.wrap ((x0_1.size : Int) - 1)) = ji4 := (i64_w _).trans hji4
        by_cases c5 : 0 ≤ (ji4)
        · rw [if_pos c5] at H
          have c5b0 := eq_true c5
          have c5b1 : decide (0 ≤ (ji4)) = true := decide_eq_true c5
          clear c5
          by_cases c6 : (ji4) ≤ (x0_1.size : Int)
          · rw [if_pos c6] at H
            have c6b0 := eq_true c6
            have c6b1 : decide ((ji4) ≤ (x0_1.size : Int)) = true := decide_eq_true c6
            clear c6
            have H' := Aside0.mk H
            clear H
            go_wp2_with (first | ((with_reducible refine gate_callee (f := 43) rfl ?_); refine goesL_ (some 5) rfl rfl Try.func43 (by kernel_rfl) rfl #[.string x0_1, .string (⟨#[255]⟩ : ByteArray)] rfl (by (try simp only [List.map_toArray, List.map_cons, List.map_nil]); first | done | rfl | (simp only [List.length_drop, List.length_take]; rfl)) ?_; (with_reducible refine (strings_HasSuffix.calls x0_1 (⟨#[255]⟩ : ByteArray) true _ A2.out).mono ?_); rintro e w' ⟨rfl, ⟨nd, rfl⟩⟩; refine ⟨_, rfl, ?_⟩))
            go_roundg k1
            case measure => have := HK1.out; omega
            case rel => exact ⟨(x0_1.extract 0 ((ji4) : Int).toNat), (by first | rfl | (simp; done) | (simp only [← hji4] <;> (first | rfl | simp)) | (simp [*]; done)), H', ⟨by have := HK1.out; omega⟩, ⟨by repeat (first | (with_reducible first | exact HB.out | apply below_alloc | apply pw_below_drewN | apply below_drew1) | exact HB.out)⟩⟩
          · rw [if_neg c6] at H
            exact absurd H (by simp)
        · rw [if_neg c5] at H
          exact absurd H (by simp)
      · replace c3 := Bool.eq_false_iff.mpr c3
        subst c3
        have H1 : (if x0_1.toList = ([] : List UInt8) then (some (⟨#[]⟩ : ByteArray)) else (if 0 ≤ (wrap64 ((x0_1.size : Int) - 1)) then (if (wrap64 ((x0_1.size : Int) - 1)) ≤ (x0_1.size : Int) then (if (wrap64 ((x0_1.size : Int) - 1)) < (x0_1.size : Int) then ((some (([((bt x0_1 (wrap64 ((x0_1.size : Int) - 1))) + 1) % 256] : List Int) : List Int)).bind fun y102 => (if (x0_1.extract 0 ((wrap64 ((x0_1.size : Int) - 1)) : Int).toNat).size + (strOfNums y102).size ≤ 9223372036854775807 then (some ((x0_1.extract 0 ((wrap64 ((x0_1.size : Int) - 1)) : Int).toNat) ++ (strOfNums y102))) else (none))) else (none)) else (none)) else (none))) = some r := by rw [if_neg (show ¬ (false = true) by decide)] at H; exact H
        clear H
        have H := H1
        clear H1
        by_cases c7 : x0_1.toList = ([] : List UInt8)
        · rw [if_pos c7] at H
          have c7b0 : (x0_1.toList == ([] : List UInt8)) = true := beq_iff_eq.mpr c7
          have c7b1 : (x0_1.toList != ([] : List UInt8)) = false := bne_eq_false_iff_eq.mpr c7
          clear c7
          obtain rfl := Option.some.inj H
          go_wp2_with (first | ((with_reducible refine gate_callee (f := 43) rfl ?_); refine goesL_ (some 5) rfl rfl Try.func43 (by kernel_rfl) rfl #[.string x0_1, .string (⟨#[255]⟩ : ByteArray)] rfl (by (try simp only [List.map_toArray, List.map_cons, List.map_nil]); first | done | rfl | (simp only [List.length_drop, List.length_take]; rfl)) ?_; (with_reducible refine (strings_HasSuffix.calls x0_1 (⟨#[255]⟩ : ByteArray) false _ A2.out).mono ?_); rintro e w' ⟨rfl, ⟨nd, rfl⟩⟩; refine ⟨_, rfl, ?_⟩))
          go_ret
          exact ⟨by first | rfl | (simp [errW_none, errW_some] <;> rfl) | (simp [*, errW_none, errW_some] <;> rfl), by repeat (first | (with_reducible first | exact HB.out | apply below_alloc | apply pw_below_drewN | apply below_drew1) | exact HB.out)⟩
        · rw [if_neg c7] at H
          have c7b0 : (x0_1.toList == ([] : List UInt8)) = false := beq_eq_false_iff_ne.mpr c7
          have c7b1 : (x0_1.toList != ([] : List UInt8)) = true := bne_iff_ne.mpr c7
          obtain ⟨ji8, hji8⟩ : ∃ j_ : Int, (wrap64 ((x0_1.size : Int) - 1)) = j_ := ⟨_, rfl⟩
          replace H : (if 0 ≤ (ji8) then (if (ji8) ≤ (x0_1.size : Int) then (if (ji8) < (x0_1.size : Int) then ((some (([((bt x0_1 (ji8)) + 1) % 256] : List Int) : List Int)).bind fun y102 => (if (x0_1.extract 0 ((ji8) : Int).toNat).size + (strOfNums y102).size ≤ 9223372036854775807 then (some ((x0_1.extract 0 ((ji8) : Int).toNat) ++ (strOfNums y102))) else (none))) else (none)) else (none)) else (none)) = some r := by first | (rw [hji8] at H; exact H) | (simp only [hji8] at H ⊢; exact H)
          (try rw [hji8] at A2)
          have hji8w : (IntKind.i64.wrap ((x0_1.size : Int) - 1)) = ji8 := (i64_w _).trans hji8
          by_cases c9 : 0 ≤ (ji8)
          · rw [if_pos c9] at H
            have c9b0 := eq_true c9
            have c9b1 : decide (0 ≤ (ji8)) = true := decide_eq_true c9
            clear c9
            by_cases c10 : (ji8) ≤ (x0_1.size : Int)
            · rw [if_pos c10] at H
              have c10b0 := eq_true c10
              have c10b1 : decide ((ji8) ≤ (x0_1.size : Int)) = true := decide_eq_true c10
              clear c10
              by_cases c11 : (ji8) < (x0_1.size : Int)
              · rw [if_pos c11] at H
                have c11b0 : decide ((ji8) < (x0_1.size : Int)) = true := decide_eq_true c11
                clear c11
                obtain ⟨y102, hy102⟩ : ∃ y_ : List Int, y_ = (([((bt x0_1 (ji8)) + 1) % 256] : List Int)) := ⟨_, rfl⟩
                replace H : (if (x0_1.extract 0 ((ji8) : Int).toNat).size + (strOfNums y102).size ≤ 9223372036854775807 then (some ((x0_1.extract 0 ((ji8) : Int).toNat) ++ (strOfNums y102))) else (none)) = some r := by first | (rw [hy102]; with_reducible exact H) | (have H2_ := (Option.bind_some _ _).symm.trans H; rw [hy102]; with_reducible exact H2_) | (have H2_ := (Option.bind_some _ _).symm.trans H; with_reducible exact H2_) | with_reducible exact H | (rw [hy102]; exact H) | exact H
                have Ny102 := Aside0.mk hy102
                clear hy102
                by_cases c13 : (x0_1.extract 0 ((ji8) : Int).toNat).size + (strOfNums y102).size ≤ 9223372036854775807
                · rw [if_pos c13] at H
                  have c13b0 := eq_true c13
                  have c13b1 : decide ((x0_1.extract 0 ((ji8) : Int).toNat).size + (strOfNums y102).size ≤ 9223372036854775807) = true := decide_eq_true c13
                  try have c13b2 : (9223372036854775807 < (x0_1.extract 0 ((ji8) : Int).toNat).size + (strOfNums y102).size) = False := eq_false (Nat.not_lt.2 c13)
                  try have c13b3 : (9223372036854775807 < ((ji8) : Int).toNat + (strOfNums y102).size) = False := by (have q_ : (ji8) ≤ (x0_1.size : Int) := of_decide_eq_true (by assumption)); (have p_ : 0 ≤ (ji8) := of_decide_eq_true (by assumption)); (have s_ : (x0_1.extract 0 ((ji8) : Int).toNat).size = ((ji8) : Int).toNat := by (rw [ByteArray.size_extract]; omega)); (have h_ := c13); (rw [s_] at h_); exact eq_false (Nat.not_lt.2 h_)
                  obtain rfl := Option.some.inj H
                  try go_wp2_with (first | ((with_reducible refine gate_callee (f := 43) rfl ?_); refine goesL_ (some 5) rfl rfl Try.func43 (by kernel_rfl) rfl #[.string x0_1, .string (⟨#[255]⟩ : ByteArray)] rfl (by (try simp only [List.map_toArray, List.map_cons, List.map_nil]); first | done | rfl | (simp only [List.length_drop, List.length_take]; rfl)) ?_; (with_reducible refine (strings_HasSuffix.calls x0_1 (⟨#[255]⟩ : ByteArray) false _ A2.out).mono ?_); rintro e w' ⟨rfl, ⟨nd, rfl⟩⟩; refine ⟨_, rfl, ?_⟩))
                  (try (rw [drewN_self wr]; generalize hq_ : World.drewN wr _ = wr; have n0_ : Aside0 (Below w.heap.size w wr) := ⟨by rw [← hq_]; exact (by repeat (first | (with_reducible first | exact HB.out | apply below_alloc | apply pw_below_drewN | apply below_drew1) | exact HB.out))⟩; clear HB hq_; have HB := n0_; clear n0_))
                  have n0_ := Aside0.mk (below_drew1 HB.out)
                  clear HB
                  have HB := n0_
                  clear n0_
                  have p12 : 0 ≤ ((ji8) : Int) := of_decide_eq_true (by first | (with_reducible assumption) | assumption)
                  have q12 : (ji8) < (x0_1.size : Int) := of_decide_eq_true (by first | (with_reducible assumption) | assumption)
                  have hx12 := bt_at x0_1 (ji8)
                  replace p12 := eq_true p12
                  replace q12 := eq_true q12
                  refine start_ (n := 11) (S := fun w' => True) (ds := []) #[false, false, false, false, false, false, false, false, false, false, false] (by kernel_rfl) rfl rfl trivial (fun hHeld => ?_); refine with_tabW rows_Next.tab6 rows_Next.bits6 (fun HT_ HW_ => ?_)
                  generalize wr.drew = w14 at HB hHeld ⊢
                  refine pure_ (i := 0) (N := some 16) (v := ?_) (a' := ?_) #[true, false, false, false, false, false, false, false, false, false, false] rfl rfl (any_of HT_.out (by kernel_rfl)) (fun _ _ _ h => h) (Or.inl ⟨by rfl, ?_⟩) ?_ ?_
                  rotate_left
                  · intro w'
                    go_simp
                    with_reducible rfl
                  rotate_left
                  · simp only [Act.put, List.setIfInBounds_toArray, List.set_cons_zero, List.set_cons_succ, i64_w, i32_w]
                    rfl
                  refine pure_ (i := 1) (N := some 17) (v := ?_) (a' := ?_) #[true, true, false, false, false, false, false, false, false, false, false] rfl rfl (any_of HT_.out (by kernel_rfl)) (fun _ _ _ h => h) (Or.inl ⟨by rfl, ?_⟩) ?_ ?_
                  rotate_left
                  · intro w'
                    go_simp
                    with_reducible rfl
                  rotate_left
                  · simp only [Act.put, List.setIfInBounds_toArray, List.set_cons_zero, List.set_cons_succ, i64_w, i32_w]
                    rfl
                  refine pure_ (i := 2) (N := some 18) (v := ?_) (a' := ?_) #[true, true, true, false, false, false, false, false, false, false, false] rfl rfl (any_of HT_.out (by kernel_rfl)) (fun _ _ _ h => h) (Or.inl ⟨by rfl, ?_⟩) ?_ ?_
                  rotate_left
                  · intro w'
                    go_simp
                    with_reducible rfl
                  rotate_left
                  · simp only [Act.put, List.setIfInBounds_toArray, List.set_cons_zero, List.set_cons_succ, i64_w, i32_w]
                    rfl
                  refine pure_ (i := 3) (N := some 19) (v := ?_) (a' := ?_) #[true, true, true, true, false, false, false, false, false, false, false] rfl rfl (any_of HT_.out (by kernel_rfl)) (fun _ _ _ h => h) (Or.inl ⟨by rfl, ?_⟩) ?_ ?_
                  rotate_left
                  · intro w'
                    go_simp
                    with_reducible rfl
                  rotate_left
                  · simp only [Act.put, List.setIfInBounds_toArray, List.set_cons_zero, List.set_cons_succ, i64_w, i32_w]
                    rfl
                  refine pure_ (i := 4) (N := some 20) (v := ?_) (a' := ?_) #[true, true, true, true, true, false, false, false, false, false, false] rfl rfl (any_of HT_.out (by kernel_rfl)) (fun _ _ _ h => h) (Or.inl ⟨by rfl, ?_⟩) ?_ ?_
                  rotate_left
                  · intro w'
                    go_simp
                    with_reducible rfl
                  rotate_left
                  · simp only [Act.put, List.setIfInBounds_toArray, List.set_cons_zero, List.set_cons_succ, i64_w, i32_w]
                    rfl
                  refine take_ (i := 5) (N := some 21) (v := ?_) (a' := ?_) #[true, true, true, true, true, true, false, false, false, false, false] rfl rfl (take_ofW HT_.out HW_.out (by kernel_rfl)) (fun _ _ _ h => h) (Or.inl ⟨by rfl, ?_⟩) hHeld ?_ ?_
                  rotate_left
                  · intro w' _
                    go_simp
                    with_reducible rfl
                  rotate_left
                  · simp only [Act.put, List.setIfInBounds_toArray, List.set_cons_zero, List.set_cons_succ, i64_w, i32_w]
                    rfl
                  refine pure_ (i := 6) (N := some 22) (v := ?_) (a' := ?_) #[true, true, true, true, true, true, true, false, false, false, false] rfl rfl (any_of HT_.out (by kernel_rfl)) (fun _ _ _ h => h) (Or.inl ⟨by rfl, ?_⟩) ?_ ?_
                  rotate_left
                  · intro w'
                    go_simp
                    with_reducible rfl
                  rotate_left
                  · simp only [Act.put, List.setIfInBounds_toArray, List.set_cons_zero, List.set_cons_succ, i64_w, i32_w]
                    rfl
                  refine one_ (i := 7) (N := some 23) #[true, true, true, true, true, true, true, true, false, false, false] rfl rfl (one_of HT_.out (by kernel_rfl)) (by decide) (fun K hK => ?_)
                  refine Kd.R_lit_step (Kd.int .u8) _ 5 ?hg (N := 23) ?hd (xs := ([((bt x0_1 (ji8)) + 1) % 256] : List Int)) (inner := [.int .u8 (((bt x0_1 (ji8)) + 1) % 256)]) (ok := fun _ => True) (okp := fun _ => True) ?hr ?hp (fun _ hk => hk) trivial (Below.refl _ _) (Nat.le_refl _) (by simp) ?_; (case hd => rfl); (case hg => rfl); (case hr => first | (go_simp; done) | (go_simp; rfl)); (case hp => exact (Reps.one (show Kd.M (Kd.int .u8) _ _ _ (((bt x0_1 (ji8)) + 1) % 256) [.int .u8 (((bt x0_1 (ji8)) + 1) % 256)] from rfl) (Reps.none _ _)))
                  intro v103 w15 ho16 hb hg_ hnew_
                  clear hg_ hnew_
                  (first | rw [← Ny102.out] at ho16 | (simp only [Int.reduceToNat] at ho16; rw [← Ny102.out] at ho16))
                  have n0_ := Aside0.mk (Kd.R_lower ho16 (below_size (by repeat (first | (with_reducible first | exact HB.out | apply below_alloc | apply pw_below_drewN | apply below_drew1) | exact HB.out))))
                  have n1_ := Aside0.mk (below_step (by repeat (first | (with_reducible first | exact HB.out | apply below_alloc | apply pw_below_drewN | apply below_drew1) | exact HB.out)) hb)
                  clear HB
                  have HO104 := n0_
                  have HB := n1_
                  clear n0_ n1_
                  clear hb ho16
                  refine hK.out _ _ trivial (fun hHeld => ?_)
                  clear hK K
                  refine norm_ (a' := ?_) ?_ ?_
                  rotate_left
                  · show Act.put _ (some 23) _ = _
                    simp only [Act.put, List.setIfInBounds_toArray, List.set_cons_zero, List.set_cons_succ, i64_w, i32_w]
                    rfl
                  refine one_ (i := 8) (N := some 24) #[true, true, true, true, true, true, true, true, true, false, false] rfl rfl (one_of HT_.out (by kernel_rfl)) (by decide) (fun K hK => ?_)
                  have hcv17 := own_string (P := Try.prog) Try.underlying36 Try.underlying5 Try.underlying9 (Kd.own_of_R HO104.out)
                  refine value_ (w1 := ?_) (v := ?_) (by rfl) rfl ?_ ?_
                  rotate_left 2
                  · go_simp
                    constructor
                    · rfl
                    · rfl
                  clear hcv17
                  refine hK.out _ _ trivial (fun hHeld => ?_)
                  clear hK K
                  refine norm_ (a' := ?_) ?_ ?_
                  rotate_left
                  · show Act.put _ (some 24) _ = _
                    simp only [Act.put, List.setIfInBounds_toArray, List.set_cons_zero, List.set_cons_succ, i64_w, i32_w]
                    rfl
                  refine pure_ (i := 9) (N := some 25) (v := ?_) (a' := ?_) #[true, true, true, true, true, true, true, true, true, true, false] rfl rfl (any_of HT_.out (by kernel_rfl)) (fun _ _ _ h => h) (Or.inl ⟨by rfl, ?_⟩) ?_ ?_
                  rotate_left
                  · intro w'
                    go_simp
                    with_reducible rfl
                  rotate_left
                  · simp only [Act.put, List.setIfInBounds_toArray, List.set_cons_zero, List.set_cons_succ, i64_w, i32_w]
                    rfl
                  refine pure_ (i := 10) (N := some 2) (v := ?_) (a' := ?_) #[true, true, true, true, true, true, true, true, true, true, true] rfl rfl (any_of HT_.out (by kernel_rfl)) (fun _ _ _ h => h) (Or.inl ⟨by rfl, ?_⟩) ?_ ?_
                  rotate_left
                  · intro w'
                    go_simp
                    with_reducible rfl
                  rotate_left
                  · simp only [Act.put, List.setIfInBounds_toArray, List.set_cons_zero, List.set_cons_succ, i64_w, i32_w]
                    rfl
                  refine done_ (done_of HT_.out (by kernel_rfl)) ?_
                  try go_wp2
                  go_ret
                  exact ⟨by first | rfl | (simp [errW_none, errW_some] <;> rfl) | (simp only [← hji8]; first | rfl | (simp [errW_none, errW_some] <;> rfl)) | (simp [*, errW_none, errW_some] <;> rfl), by repeat (first | (with_reducible first | exact HB.out | apply below_alloc | apply pw_below_drewN | apply below_drew1) | exact HB.out)⟩
                · rw [if_neg c13] at H
                  exact absurd H (by simp)
              · rw [if_neg c11] at H
                exact absurd H (by simp)
            · rw [if_neg c10] at H
              exact absurd H (by simp)
          · rw [if_neg c9] at H
            exact absurd H (by simp)

end Go.Proofs.Ytnjidfgjldkkcaa.Q
/- bagnallref.RowsNext, walked: for every text of at most 2^47 bytes; and what it answers. -/
namespace Go.Proofs.Ytnjidfgjldkkcaa.Q
open Go.RowKit Go.Proofs.YtnjidfgjldkkcaaW.PrintWords Go.Proofs.YtnjidfgjldkkcaaW.PrintLast Go.Proofs.YtnjidfgjldkkcaaW.PrintMore
/-- How many bytes are left behind the last one that is not 255. -/
def trimLen (s : ByteArray) : Nat → Nat
  | 0 => 0
  | n + 1 => if bt s (n : Int) = 255 then trimLen s n else n + 1
/-- The first n bytes, the last of them one more. -/
def raised (s : ByteArray) : Nat → List Int
  | 0 => []
  | n + 1 => ((bytesOf s).take (n + 1)).set n ((bt s (n : Int) + 1) % 256)
def bagnallref_RowsNext.v (s : ByteArray) : ByteArray := strOfNums (raised s (trimLen s s.size))

theorem cell_bytes (w : World) (s : ByteArray) (j : Nat) (hj : j < s.size) : (Lib.bytesWorld w 5 s).cell? ⟨w.heap.size, j, none⟩ = some (.int .u8 (bt s (j : Int))) := by
  rw [Lib.bytesWorld_cell w 5 s j hj, ← rd_bytesOf]
  have h' : j < s.data.toList.length := by rw [data_length]; exact hj
  simp [rd, bytesOf, List.getD_eq_getElem?_getD, List.getElem?_eq_getElem h']
theorem frozen_bytes (w : World) (s : ByteArray) (j : Nat) (hj : j < s.size) : (Lib.bytesWorld w 5 s).frozen? ⟨w.heap.size, j, none⟩ = false := by
  have h := Lib.bytesWorld_at_new w 5 s
  have hz : s.size ≤ (Lib.bytesCells w 5 s).size := by
    unfold Lib.bytesCells
    rw [Array.size_append, Array.size_map]
    exact Nat.le_add_right _ _
  unfold World.frozen?
  simp only [h]
  simp
  omega
theorem raised_reads {W : World} {g n : Nat} (s : ByteArray) (hn : n + 1 ≤ s.size) (hs : s.size ≤ 140737488351232) (hc : ∀ j : Nat, j < s.size → W.cell? ⟨g, j, none⟩ = some (.int .u8 (bt s (j : Int)))) :
    ReadsInt (W.setCell ⟨g, n, none⟩ (.int .u8 ((bt s (n : Int) + 1) % 256))) .u8 (some ⟨g, 0, none⟩) (n + 1) (raised s (n + 1)) := by
  have hl : (bytesOf s).length = s.size := bytesOf_length s
  refine ⟨by simp [raised]; omega, by omega, fun _ => ⟨_, rfl, fun j hj => ?_⟩⟩
  rw [add_plain]
  have hj' : j < (bytesOf s).length := by omega
  by_cases e : j = n
  · subst e
    rw [World.cell?_setCell_same (h := hc j (by omega))]
    congr 2
    have hlt : j < (((bytesOf s).take (j + 1)).set j ((bt s (j : Int) + 1) % 256)).length := by simp; omega
    unfold raised
    rw [List.getD_eq_getElem?_getD, List.getElem?_eq_getElem hlt, List.getElem_set_self]
    rfl
  · rw [World.cell?_setCell_other (h := fun (h : (⟨g, n, none⟩ : Addr) = ⟨g, j, none⟩) => e (by injection h with _ h2 _; exact h2.symm)), hc j (by omega)]
    congr 2
    rw [← rd_bytesOf]
    unfold rd raised
    rw [List.getD_eq_getElem?_getD, List.getD_eq_getElem?_getD, List.getElem?_set_ne (Ne.symm e), List.getElem?_take, if_pos (by omega), Int.toNat_natCast]
set_option maxRecDepth 100000 in
set_option maxHeartbeats 1600000 in
theorem RowsNext_walk (s : ByteArray) (w : World) (hs : s.size ≤ 140737488351232) :
    Calls Try.prog 17 #[.string s] w fun e w' => e = .returned (.string (bagnallref_RowsNext.v s)) ∧ Below w.heap.size w w' := by
  have kc := fun (w : World) => Lib.run_convert_string_bytes (P := Try.prog) w 9 36 5 s Try.underlying9 Try.underlying36 Try.underlying5
  go_enter Try.func17, Try.ntmps17
  go_wp2
  have hb := bytes_below (Below.refl w.heap.size w) (Nat.le_refl _) 5 s
  have hc : Hid (∀ j : Nat, j < s.size → (Lib.bytesWorld w 5 s).cell? ⟨w.heap.size, j, none⟩ = some (.int .u8 (bt s (j : Int)))) := cell_bytes w s
  have hz : Hid (∀ j : Nat, j < s.size → (Lib.bytesWorld w 5 s).frozen? ⟨w.heap.size, j, none⟩ = false) := frozen_bytes w s
  have hC : s.size ≤ grownCap w s.size 0 5 := grownCap_ge w s.size 0 5
  generalize Lib.bytesWorld w 5 s = W1 at *
  clear kc
  generalize grownCap w s.size 0 5 = C at *
  go_loop [3] (fun v => ∃ n : Nat, n ≤ s.size ∧ Aside0 (trimLen s n = trimLen s s.size) ∧ v = .slice (some ⟨w.heap.size, 0, none⟩) n C) (fun v => match v with | .slice _ n _ => n | _ => 0)
  case atStart => exact ⟨s.size, Nat.le_refl _, ⟨rfl⟩, rfl⟩
  case round =>
    obtain ⟨n, hn, ht, rfl⟩ := hrel
    cases n with
    | zero =>
      have ks := fun (W : World) => string_of_reads (P := Try.prog) (w := W) (A := some ⟨w.heap.size, 0, none⟩) (n := 0) (c := C) (xs := []) Try.underlying36 Try.underlying5 Try.underlying9 ⟨rfl, by simp, fun h => absurd h (by simp)⟩
      go_wp2
      go_ret
      refine ⟨?_, hb⟩
      unfold bagnallref_RowsNext.v
      rw [← ht.out]
      rfl
    | succ n =>
      have hcn := hc.out n (by omega)
      have hzn := hz.out n (by omega)
      have hnC : n ≤ C := by omega
      by_cases h255 : bt s (n : Int) = 255
      · have hbt : (bt s (n : Int) == 255) = true := by simpa using h255
        have HT : Aside0 (trimLen s n = trimLen s s.size) := ⟨by rw [← ht.out, trimLen, if_pos h255]⟩
        go_wp2
        go_round
        case rel => exact ⟨n, by omega, HT, rfl⟩
        case measure => show n < n + 1; omega
      · have hbt : (bt s (n : Int) == 255) = false := by simpa using h255
        have ks := string_of_reads (P := Try.prog) (c := C) Try.underlying36 Try.underlying5 Try.underlying9 (raised_reads s hn hs hc.out)
        have HT : Aside0 (trimLen s s.size = n + 1) := ⟨by rw [← ht.out, trimLen, if_neg h255]⟩
        go_wp2
        go_ret
        refine ⟨?_, hb.setCell (Nat.le_refl _) _⟩
        unfold bagnallref_RowsNext.v
        rw [HT.out]
        rfl

def bagnallref_RowsNext.f (s : ByteArray) : Option ByteArray := if s.size ≤ 140737488351232 then some (bagnallref_RowsNext.v s) else none
theorem bagnallref_RowsNext.calls (a0 : ByteArray) (r : ByteArray) (w : World) (h : bagnallref_RowsNext.f a0 = some r) :
    Calls Try.prog 17 #[.string a0] w fun e w' => e = .returned (.string r) ∧ Below w.heap.size w w' := by
  unfold bagnallref_RowsNext.f at h
  split at h
  · rename_i hs
    obtain rfl := Option.some.inj h
    exact RowsNext_walk a0 w hs
  · cases h
end Go.Proofs.Ytnjidfgjldkkcaa.Q
-- Written for this seat by a program of its session (xp.py over the kit's printer).
namespace Go.Proofs.Ytnjidfgjldkkcaa.Q
open Go.RowKit Go.Proofs.YtnjidfgjldkkcaaW.PrintWords Go.Proofs.YtnjidfgjldkkcaaW.PrintLast Go.Proofs.YtnjidfgjldkkcaaW.PrintMore
attribute [local go_sem] max2_int min2_int max_two min_two max_three min_three max_four min_four xq_geq xq_leq xq_gtr   -- for this text's walks alone
set_option linter.unusedVariables false
set_option linter.unusedSimpArgs false

/-! ### bagnalllaw_RowsNexts: function 3 -/
def bagnalllaw_RowsNexts.f (k : Nat) (a0 : ByteArray) : Option (Bool) := (rows_Next.f k a0).bind fun t101 => ((bagnallref_RowsNext.f a0).bind fun t102 => (some (t101.toList == t102.toList)))
theorem bagnalllaw_RowsNexts.mono : ∀ a0 k, LeO (bagnalllaw_RowsNexts.f k a0) (bagnalllaw_RowsNexts.f (k + 1) a0) := by
  intro a0 k
  unfold bagnalllaw_RowsNexts.f
  repeat' first
      | (with_reducible exact rows_Next.mono _ _)
      | (with_reducible exact LeO.refl _)
      | (with_reducible exact LeO.none _)
      | (with_reducible refine LeO.ite ?_ ?_)
      | (with_reducible refine LeO.bind ?_ (fun _ => ?_))
      | exact rows_Next.mono _ _
      | exact LeO.none _
      | refine LeO.ite ?_ ?_
      | refine LeO.bind ?_ (fun _ => ?_)
set_option maxHeartbeats 8000000 in
set_option maxRecDepth 100000 in
theorem bagnalllaw_RowsNexts.calls (k : Nat) (a0 : ByteArray) (r : Bool) (w : World) (h : bagnalllaw_RowsNexts.f k a0 = some r) :
    Calls Try.prog 3 #[.string a0] w fun e w' => e = .returned (.bool r) ∧ Below w.heap.size w w' := by
  have HB := Aside0.mk (Below.refl w.heap.size w)
  have H : ((rows_Next.f k a0).bind fun t101 => ((bagnallref_RowsNext.f a0).bind fun t102 => (some (t101.toList == t102.toList)))) = some r := h
  clear h
  replace H := Option.bind_eq_some_iff.mp H
  obtain ⟨t101, A20, H⟩ := H
  replace H : ((bagnallref_RowsNext.f a0).bind fun t102 => (some (t101.toList == t102.toList))) = some r := H
  have A2 := Aside0.mk A20
  clear A20
  replace H := Option.bind_eq_some_iff.mp H
  obtain ⟨t102, A30, H⟩ := H
  replace H : (some (t101.toList == t102.toList)) = some r := H
  have A3 := Aside0.mk A30
  clear A30
  obtain rfl := Option.some.inj H
  go_enter Try.func3, Try.ntmps3
  go_wp2_with (first | ((with_reducible refine gate_callee (f := 16) rfl ?_); refine goesL_ (some 4) rfl rfl Try.func16 (by kernel_rfl) rfl #[.string a0] rfl (by (try simp only [List.map_toArray, List.map_cons, List.map_nil]); first | done | rfl | (simp only [List.length_drop, List.length_take]; rfl)) ?_; (with_reducible refine (rows_Next.calls k a0 t101 _ A2.out).mono ?_); rintro e w4 ⟨rfl, hb⟩; refine ⟨_, rfl, ?_⟩; have n0_ := Aside0.mk (below_step (by repeat (first | (with_reducible first | exact HB.out | apply below_alloc | apply pw_below_drewN | apply below_drew1) | exact HB.out)) hb); clear HB; have HB := n0_; clear n0_; (try clear hb); (try clear hb2); (try clear hk); (try clear hi)) | ((with_reducible refine gate_callee (f := 17) rfl ?_); refine goesL_ (some 6) rfl rfl Try.func17 (by kernel_rfl) rfl #[.string a0] rfl (by (try simp only [List.map_toArray, List.map_cons, List.map_nil]); first | done | rfl | (simp only [List.length_drop, List.length_take]; rfl)) ?_; (with_reducible refine (bagnallref_RowsNext.calls a0 t102 _ A3.out).mono ?_); rintro e w5 ⟨rfl, hb⟩; refine ⟨_, rfl, ?_⟩; have n0_ := Aside0.mk (below_step (by repeat (first | (with_reducible first | exact HB.out | apply below_alloc | apply pw_below_drewN | apply below_drew1) | exact HB.out)) hb); clear HB; have HB := n0_; clear n0_; (try clear hb); (try clear hb2); (try clear hk); (try clear hi)))
  go_ret
  exact ⟨by first | rfl | (simp [errW_none, errW_some] <;> rfl) | (simp [*, errW_none, errW_some] <;> rfl), by repeat (first | (with_reducible first | exact HB.out | apply below_alloc | apply pw_below_drewN | apply below_drew1) | exact HB.out)⟩

end Go.Proofs.Ytnjidfgjldkkcaa.Q
/- rows.Next answers as the reference does, for every text; no condition. -/
namespace Go.Proofs.Ytnjidfgjldkkcaa.Pure
open Go.RowKit Go.Proofs.Ytnjidfgjldkkcaa.Q Go.Proofs.YtnjidfgjldkkcaaW.PrintWords Go.Proofs.Ytnjidfgjldkkcaa.Plain

theorem head_bytes (s : ByteArray) {n : Nat} : bytesOf (s.extract 0 n) = (bytesOf s).take n := by rw [bytes_extract, List.drop_zero]
theorem head_size (s : ByteArray) {n : Nat} (hn : n ≤ s.size) : (s.extract 0 n).size = n := by
  rw [← size_bytes, head_bytes, List.length_take, size_bytes]; omega
theorem head_bt (s : ByteArray) {n i : Nat} (hn : n ≤ s.size) (hi : i < n) : bt (s.extract 0 n) (i : Int) = bt s (i : Int) := by
  rw [bt_get (by rw [head_size s hn]; exact hi), bt_get (by omega)]
  simp only [head_bytes, List.getElem_take]
theorem head_head (s : ByteArray) {n m : Nat} (h : m ≤ n) : (s.extract 0 n).extract 0 m = s.extract 0 m := by
  apply str_inj
  rw [head_bytes, head_bytes, head_bytes, List.take_take, Nat.min_eq_left h]
theorem head_whole (s : ByteArray) : s.extract 0 s.size = s := by
  apply str_inj
  rw [head_bytes, List.take_of_length_le (by rw [size_bytes]; exact Nat.le_refl _)]

theorem suffix_zero (y : ByteArray) (h : y.size = 0) : strings_HasSuffix.f y (⟨#[255]⟩ : ByteArray) = some false := by
  unfold strings_HasSuffix.f stringslite_HasSuffix.f
  rw [if_neg (by have : (⟨#[255]⟩ : ByteArray).size = 1 := rfl; omega)]
  rfl
theorem suffix_succ (y : ByteArray) (m : Nat) (h : y.size = m + 1) (hm : m < 9223372036854775807) : strings_HasSuffix.f y (⟨#[255]⟩ : ByteArray) = some (decide (bt y (m : Int) = 255)) := by
  have e1 : (⟨#[255]⟩ : ByteArray).size = 1 := rfl
  have e2 : wrap64 ((y.size : Int) - ((⟨#[255]⟩ : ByteArray).size : Int)) = (m : Int) := by rw [e1, wrap_in (by omega) (by omega)]; omega
  unfold strings_HasSuffix.f stringslite_HasSuffix.f
  rw [if_pos (by omega), e2, if_pos (by omega), if_pos (by omega), Option.bind_some, Int.toNat_natCast]
  congr 1
  rw [Bool.eq_iff_iff, beq_iff_eq, decide_eq_true_eq, toList_inj]
  have e3 : bytesOf (y.extract m y.size) = [bt y (m : Int)] := by
    rw [bytes_extract, List.take_of_length_le (by rw [size_bytes]; exact Nat.le_refl _), bt_get (by omega : m < y.size), List.drop_eq_getElem_cons (by rw [size_bytes]; omega), List.drop_of_length_le (by rw [size_bytes]; omega)]
  have e4 : bytesOf (⟨#[255]⟩ : ByteArray) = [255] := rfl
  constructor
  · intro h
    have := e3.symm.trans ((congrArg bytesOf h).trans e4)
    simpa using this
  · intro h
    apply str_inj
    rw [e3, e4, h]

theorem next_ev (s : ByteArray) (hs : s.size ≤ 140737488351232) : ∀ n, n ≤ s.size → Ev (fun k => rows_Next.l0 k (s.extract 0 n)) (strOfNums (Q.raised s (trimLen s n)))
  | 0, hn => by
    have h0 := head_size s hn
    refine Ev.step (fun k => rfl) (Ev.bind (Ev.lift (suffix_zero _ h0)) (Ev.neg (by simp) (Ev.pos (empty_iff.2 h0) ?_)))
    exact Ev.now _
  | m + 1, hn => by
    have hz := head_size s hn
    have hb := head_bt s hn (Nat.lt_succ_self m)
    have e2 : wrap64 (((s.extract 0 (m + 1)).size : Int) - 1) = (m : Int) := by rw [hz, wrap_in (by omega) (by omega)]; omega
    refine Ev.step (fun k => rfl) (Ev.bind (Ev.lift (suffix_succ _ m hz (by omega))) ?_)
    rw [e2, hb]
    by_cases h : bt s (m : Int) = 255
    · rw [decide_eq_true h, Int.toNat_natCast, head_head s (Nat.le_succ m)]
      refine Ev.pos rfl (Ev.pos (by omega) (Ev.pos (by omega) ?_))
      rw [trimLen, if_pos h]
      exact next_ev s hs m (by omega)
    · rw [decide_eq_false h, Int.toNat_natCast, head_head s (Nat.le_succ m)]
      have hm := head_size s (show m ≤ s.size by omega)
      refine Ev.neg (by simp) (Ev.neg (fun e => by have := empty_iff.1 e; omega) (Ev.pos (by omega) (Ev.pos (by omega) (Ev.pos (by omega) ?_))))
      rw [Option.bind_some, strOfNums_size]
      refine Ev.pos (by simp; omega) (Ev.to (Ev.now _) ?_)
      rw [trimLen, if_neg h, ← str_bytes (s.extract 0 m), head_bytes, str_append]
      congr 1
      have hlt : m < (bytesOf s).length := by rw [size_bytes]; omega
      show _ = ((bytesOf s).take (m + 1)).set m ((bt s (m : Int) + 1) % 256)
      rw [List.take_succ_eq_append_getElem hlt, List.set_append_right _ _ (by rw [List.length_take]; omega)]
      simp [List.length_take, Nat.min_eq_left (Nat.le_of_lt hlt)]

theorem walkRowsNexts (W : World) (s : ByteArray) (ok : s.size ≤ 140737488351232) :
    Calls Try.prog 3 #[.string s] W fun e w' => e = .returned (.bool true) ∧ Below W.heap.size W w' := by
  obtain ⟨k, h⟩ : ∃ k, bagnalllaw_RowsNexts.f k s = some true := Ev.rounds (by
    unfold bagnalllaw_RowsNexts.f rows_Next.f bagnallref_RowsNext.f
    have h := next_ev s ok s.size (Nat.le_refl _)
    rw [head_whole] at h
    rw [if_pos ok]
    exact Ev.bind h (Ev.to (Ev.now _) (by simp [bagnallref_RowsNext.v])))
  exact bagnalllaw_RowsNexts.calls k s true W h

end Go.Proofs.Ytnjidfgjldkkcaa.Pure
-- Written for this seat by a program of its session (xp.py over the kit's printer).
namespace Go.Proofs.Ytnjidfgjldkkcaa.Q
open Go.RowKit Go.Proofs.YtnjidfgjldkkcaaW.PrintWords Go.Proofs.YtnjidfgjldkkcaaW.PrintLast Go.Proofs.YtnjidfgjldkkcaaW.PrintMore
attribute [local go_sem] max2_int min2_int max_two min_two max_three min_three max_four min_four xq_geq xq_leq xq_gtr   -- for this text's walks alone
set_option linter.unusedVariables false
set_option linter.unusedSimpArgs false

attribute [local go_sem high] eqA69
/-! ### bagnallref_rowsSet: function 60 -/
mutual
def bagnallref_rowsSet.l0 : Nat → List (S69) → Bool → List (S69) → Int → Int → ByteArray → ByteArray → Option ((List (S69)))
  | 0, _, _, _, _, _, _, _ => none
  | k + 1, x5, x6, x12, x13, x14, x111000, x111001 => if x14 < x13 then (if 0 ≤ x14 then (if x14 < (x12.length : Int) then (if x6 = true then (bagnallref_rowsSet.j1 k x5 x6 x12 x13 x14 false x111000 x111001 ((rd_T69 x12 x14).f0) ((rd_T69 x12 x14).f1)) else (bagnallref_rowsSet.j1 k x5 x6 x12 x13 x14 (Op.bytesLess x111000.toList (((rd_T69 x12 x14).f0).toList)) x111000 x111001 ((rd_T69 x12 x14).f0) ((rd_T69 x12 x14).f1))) else (none)) else (none)) else (if x6 = true then (some x5) else (if x5.length < 4398046511104 then (some (x5 ++ [(⟨x111000, x111001⟩ : S69)])) else (none)))
def bagnallref_rowsSet.j1 : Nat → List (S69) → Bool → List (S69) → Int → Int → Bool → ByteArray → ByteArray → ByteArray → ByteArray → Option ((List (S69)))
  | 0, _, _, _, _, _, _, _, _, _, _ => none
  | k + 1, x5, x6, x12, x13, x14, x26, x111000, x111001, x116000, x116001 => if x26 = true then (if x5.length < 4398046511104 then ((some (x5 ++ [(⟨x111000, x111001⟩ : S69)] : List (S69))).bind fun y116 => (if x116000.toList = x111000.toList then (bagnallref_rowsSet.l0 k y116 true x12 x13 (wrap64 (x14 + 1)) x111000 x111001) else (if y116.length < 4398046511104 then (bagnallref_rowsSet.l0 k (y116 ++ [(⟨x116000, x116001⟩ : S69)]) true x12 x13 (wrap64 (x14 + 1)) x111000 x111001) else (none)))) else (none)) else (if x116000.toList = x111000.toList then (bagnallref_rowsSet.l0 k x5 x6 x12 x13 (wrap64 (x14 + 1)) x111000 x111001) else (if x5.length < 4398046511104 then (bagnallref_rowsSet.l0 k (x5 ++ [(⟨x116000, x116001⟩ : S69)]) x6 x12 x13 (wrap64 (x14 + 1)) x111000 x111001) else (none)))
end
def bagnallref_rowsSet.f (k : Nat) (l0 : List (S69)) (a1_0 : ByteArray) (a1_1 : ByteArray) : Option ((List (S69))) := bagnallref_rowsSet.l0 k ([] : List (S69)) (a1_1.toList == ([] : List UInt8)) l0 (l0.length : Int) 0 a1_0 a1_1
theorem bagnallref_rowsSet.mono_l : ∀ k, (∀ y0 y1 y2 y3 y4 y5 y6, LeO (bagnallref_rowsSet.l0 k y0 y1 y2 y3 y4 y5 y6) (bagnallref_rowsSet.l0 (k + 1) y0 y1 y2 y3 y4 y5 y6)) ∧ (∀ y0 y1 y2 y3 y4 y5 y6 y7 y8 y9, LeO (bagnallref_rowsSet.j1 k y0 y1 y2 y3 y4 y5 y6 y7 y8 y9) (bagnallref_rowsSet.j1 (k + 1) y0 y1 y2 y3 y4 y5 y6 y7 y8 y9))
  | 0 => ⟨fun _ _ _ _ _ _ _ r h => by simp [bagnallref_rowsSet.l0] at h, fun _ _ _ _ _ _ _ _ _ _ r h => by simp [bagnallref_rowsSet.j1] at h⟩
  | k + 1 => by
    obtain ⟨ih0, ih1⟩ := bagnallref_rowsSet.mono_l k
    refine ⟨?_, ?_⟩
    · intro y0 y1 y2 y3 y4 y5 y6
      unfold bagnallref_rowsSet.l0
      repeat' first
      | (with_reducible exact ih0 _ _ _ _ _ _ _)
      | (with_reducible exact ih1 _ _ _ _ _ _ _ _ _ _)
      | (with_reducible exact LeO.refl _)
      | (with_reducible exact LeO.none _)
      | (with_reducible refine LeO.ite ?_ ?_)
      | (with_reducible refine LeO.bind ?_ (fun _ => ?_))
      | exact ih0 _ _ _ _ _ _ _
      | exact ih1 _ _ _ _ _ _ _ _ _ _
      | exact LeO.none _
      | refine LeO.ite ?_ ?_
      | refine LeO.bind ?_ (fun _ => ?_)
    · intro y0 y1 y2 y3 y4 y5 y6 y7 y8 y9
      unfold bagnallref_rowsSet.j1
      repeat' first
      | (with_reducible exact ih0 _ _ _ _ _ _ _)
      | (with_reducible exact ih1 _ _ _ _ _ _ _ _ _ _)
      | (with_reducible exact LeO.refl _)
      | (with_reducible exact LeO.none _)
      | (with_reducible refine LeO.ite ?_ ?_)
      | (with_reducible refine LeO.bind ?_ (fun _ => ?_))
      | exact ih0 _ _ _ _ _ _ _
      | exact ih1 _ _ _ _ _ _ _ _ _ _
      | exact LeO.none _
      | refine LeO.ite ?_ ?_
      | refine LeO.bind ?_ (fun _ => ?_)
theorem bagnallref_rowsSet.mono : ∀ a0 a1 a2 k, LeO (bagnallref_rowsSet.f k a0 a1 a2) (bagnallref_rowsSet.f (k + 1) a0 a1 a2) := by
  intro a0 a1 a2 k
  obtain ⟨ih0, ih1⟩ := bagnallref_rowsSet.mono_l k
  unfold bagnallref_rowsSet.f
  repeat' first
      | (with_reducible exact ih0 _ _ _ _ _ _ _)
      | (with_reducible exact ih1 _ _ _ _ _ _ _ _ _ _)
      | (with_reducible exact LeO.refl _)
      | (with_reducible exact LeO.none _)
      | (with_reducible refine LeO.ite ?_ ?_)
      | (with_reducible refine LeO.bind ?_ (fun _ => ?_))
      | exact ih0 _ _ _ _ _ _ _
      | exact ih1 _ _ _ _ _ _ _ _ _ _
      | exact LeO.none _
      | refine LeO.ite ?_ ?_
      | refine LeO.bind ?_ (fun _ => ?_)
set_option maxHeartbeats 8000000 in
set_option maxRecDepth 100000 in
theorem bagnallref_rowsSet.calls (k : Nat) (A0 : Option Addr) (c0 : Nat) (l0 : List (S69)) (a1_0 : ByteArray) (a1_1 : ByteArray) (r : List (S69)) (w : World) (hr0 : Kd.C k69 w A0 l0.length l0) (hc0 : l0.length ≤ c0) (h : bagnallref_rowsSet.f k l0 a1_0 a1_1 = some r) :
    Calls Try.prog 60 #[.slice A0 l0.length c0, .agg #[.string a1_0, .string a1_1]] w fun e w' => ∃ v0_ : Value, e = .returned (v0_) ∧ Kd.R k69 69 w' w.heap.size (fun _ => True) v0_ r ∧ Below w.heap.size w w' := by
  have hu69 := Try.underlying69
  have HR0 := Aside0.mk hr0
  have HC0 := Aside0.mk hc0
  clear hr0 hc0
  have HB := Aside0.mk (Below.refl w.heap.size w)
  have H : (bagnallref_rowsSet.l0 k ([] : List (S69)) (a1_1.toList == ([] : List UInt8)) l0 (l0.length : Int) 0 a1_0 a1_1) = some r := h
  clear h
  have H' := Aside0.mk H
  clear H
  go_enter Try.func60, Try.ntmps60
  go_wp2_with (first | ((with_reducible refine gate_dst (N := 3) rfl ?_); refine box_event ?hg (N := 3) ?hd (cs := #[.string a1_0, .string a1_1]) (t := 69) ?hr ?_; (case hd => rfl); (case hg => rfl); (case hr => first | (go_simp; done) | (go_simp; rfl)); intro gb110 hg w3 hbox hb; have n0_ := Aside0.mk (below_step (by repeat (first | (with_reducible first | exact HB.out | apply below_alloc | apply pw_below_drewN | apply below_drew1) | exact HB.out)) hb); have n1_ := Aside0.mk (hbox); have n2_ := Aside0.mk ((by rw [hg]; exact (below_size (by repeat (first | (with_reducible first | exact HB.out | apply below_alloc | apply pw_below_drewN | apply below_drew1) | exact HB.out))) : w.heap.size ≤ gb110)); have n3_ := Aside0.mk ((by rw [hg]; exact (below_size (by repeat (first | (with_reducible first | exact HB.out | apply below_alloc | apply pw_below_drewN | apply below_drew1) | exact HB.out))) : w.heap.size ≤ gb110)); clear HB; have HB := n0_; have BK110 := n1_; have GW110 := n2_; have GE110 := n3_; clear n0_ n1_ n2_ n3_; clear hb hbox hg; have hcz4_0 : w3.cell? ⟨gb110, 0, none⟩ = some (.string a1_0) := (blk_cell BK110.out 0).trans rfl; have hcz4_1 : w3.cell? ⟨gb110, 1, none⟩ = some (.string a1_1) := (blk_cell BK110.out 1).trans rfl; have hfz4_0 := blk_frozen BK110.out 0; have hfz4_1 := blk_frozen BK110.out 1))
  go_loopg [5, 6, 14] k (fun kq v5 v6 v14 w' => ∃ (x5_1 : List (S69)) (x6_1 : Bool) (x14_1 : Int), v6 = .bool x6_1 ∧ v14 = .int .i64 x14_1 ∧ Aside0 (bagnallref_rowsSet.l0 kq x5_1 x6_1 l0 (l0.length : Int) x14_1 a1_0 a1_1 = some r) ∧ Aside0 (kq ≤ k) ∧ Aside0 (Kd.R k69 69 w' w.heap.size (fun k_ => k_ ≠ gb110) v5 x5_1) ∧ Aside0 (w'.heap[gb110]? = some (.cells #[.string a1_0, .string a1_1] 69 (0, 0))) ∧ Aside0 (Below w.heap.size w w'))
  case atStart => exact ⟨(([] : List (S69))), ((a1_1.toList == ([] : List UInt8))), (0), (by first | rfl | (simp; done) | (simp [*]; done)), (by first | rfl | (simp; done) | (simp [*]; done)), H', ⟨Nat.le_refl _⟩, ⟨by first | exact Kd.R_nil _ _ _ _ _ | exact Kd.N_nil _ _ _ _ _ | exact Kd.V_nil _ _ _ _ _ | exact Kd.Q_nil _ _ _ _ _ | exact Kd.S_nil _ _ _ _ _⟩, ⟨by (with_reducible repeat (first | refine blk_drewN ?_ _ | refine blk_drew ?_ | refine blk_alloc ?_ _)); exact BK110.out⟩, ⟨by repeat (first | (with_reducible first | exact HB.out | apply below_alloc | apply pw_below_drewN | apply below_drew1 | refine below_set ?_ GE110.out) | exact HB.out)⟩⟩
  case round =>
    clear H'
    try clear p2
    try clear hcz4_0
    try clear hcz4_1
    try clear hfz4_0
    try clear hfz4_1
    obtain ⟨x5_1, x6_1, x14_1, rfl, rfl, HA, HK1, HO_5, BK110, HB⟩ := hrel
    cases gk with
    | zero => exact absurd HA.out (by simp [bagnallref_rowsSet.l0])
    | succ k1 =>
      have H := HA.out
      clear HA
      simp only [bagnallref_rowsSet.l0] at H
      by_cases c5 : x14_1 < (l0.length : Int)
      · rw [if_pos c5] at H
        have c5b0 : decide (x14_1 < (l0.length : Int)) = true := decide_eq_true c5
        clear c5
        by_cases c6 : 0 ≤ x14_1
        · rw [if_pos c6] at H
          have c6b0 : decide (0 ≤ x14_1) = true := decide_eq_true c6
          clear c6
          by_cases c7 : x14_1 < (l0.length : Int)
          · rw [if_pos c7] at H
            have c7b0 : decide (x14_1 < (l0.length : Int)) = true := decide_eq_true c7
            clear c7
            have HC8 := Aside0.mk H
            clear H
            have p114 : 0 ≤ (x14_1 : Int) := of_decide_eq_true (by first | (with_reducible assumption) | assumption)
            have q114 : x14_1 < (l0.length : Int) := of_decide_eq_true (by first | (with_reducible assumption) | assumption)
            obtain ⟨ad114, e114, hx114_0, hx114_1⟩ := at_T69 HR0.out x14_1 p114 q114
            cases e114
            replace hx114_0 := (HB.out.cell (World.block_lt_of_cell? w _ hx114_0)).trans hx114_0
            replace hx114_1 := (HB.out.cell (World.block_lt_of_cell? w _ hx114_1)).trans hx114_1
            replace p114 := eq_true p114
            replace q114 := eq_true q114
            go_upto_region 6 with (first | ((with_reducible refine gate_dst (N := 8) rfl ?_); refine box_event ?hg (N := 8) ?hd (cs := #[.string (⟨#[]⟩ : ByteArray), .string (⟨#[]⟩ : ByteArray)]) (t := 69) ?hr ?_; (case hd => rfl); (case hg => rfl); (case hr => first | (go_simp; done) | (go_simp; rfl)); intro gb115 hg w9 hbox hb; have n0_ := Aside0.mk (Kd.R_below (Kd.R_elderB (by (with_reducible repeat (first | apply Kd.R_alloc | apply Kd.R_drewN | apply Kd.R_drew)); exact HO_5.out) gb115 (Nat.le_of_eq hg.symm)) hb); have n1_ := Aside0.mk (blk_below (g := gb110) (o := .cells #[.string a1_0, .string a1_1] 69 (0, 0)) (by (with_reducible repeat (first | refine blk_drewN ?_ _ | refine blk_drew ?_ | refine blk_alloc ?_ _)); exact BK110.out) hb); have n2_ := Aside0.mk (below_step (by repeat (first | (with_reducible first | exact HB.out | apply below_alloc | apply pw_below_drewN | apply below_drew1 | refine below_set ?_ GE110.out) | exact HB.out)) hb); have n3_ := Aside0.mk (hbox); have n4_ := Aside0.mk ((by rw [hg]; exact (below_size (by repeat (first | (with_reducible first | exact HB.out | apply below_alloc | apply pw_below_drewN | apply below_drew1 | refine below_set ?_ GE110.out) | exact HB.out))) : w.heap.size ≤ gb115)); have n5_ := Aside0.mk ((by rw [hg]; exact (below_size (by repeat (first | (with_reducible first | exact HB.out | apply below_alloc | apply pw_below_drewN | apply below_drew1 | refine below_set ?_ GE110.out) | exact HB.out))) : w.heap.size ≤ gb115)); have n6_ := Aside0.mk ((by rw [hg]; exact Nat.ne_of_lt (blk_lt (g := gb110) (o := .cells #[.string a1_0, .string a1_1] 69 (0, 0)) (by (with_reducible repeat (first | refine blk_drewN ?_ _ | refine blk_drew ?_ | refine blk_alloc ?_ _)); exact BK110.out)) : gb110 ≠ gb115)); have n7_ := Aside0.mk ((by rw [hg]; exact Nat.ne_of_gt (blk_lt (g := gb110) (o := .cells #[.string a1_0, .string a1_1] 69 (0, 0)) (by (with_reducible repeat (first | refine blk_drewN ?_ _ | refine blk_drew ?_ | refine blk_alloc ?_ _)); exact BK110.out)) : gb115 ≠ gb110)); clear HO_5; clear BK110; clear HB; have HO_5 := n0_; have BK110 := n1_; have HB := n2_; have BK115 := n3_; have GW115 := n4_; have GE115 := n5_; have NB110_115 := n6_; have NB115_110 := n7_; clear n0_ n1_ n2_ n3_ n4_ n5_ n6_ n7_; clear hb hbox hg; have hnb10 := NB115_110.out; have hnc10 := NB110_115.out; have hcz11_0 : w9.cell? ⟨gb115, 0, none⟩ = some (.string (⟨#[]⟩ : ByteArray)) := (blk_cell BK115.out 0).trans rfl; have hcz11_1 : w9.cell? ⟨gb115, 1, none⟩ = some (.string (⟨#[]⟩ : ByteArray)) := (blk_cell BK115.out 1).trans rfl; have hfz11_0 := blk_frozen BK115.out 0; have hfz11_1 := blk_frozen BK115.out 1))
            (try simp only [Act.put, List.setIfInBounds_toArray, List.set_cons_zero, List.set_cons_succ])
            go_cut [26] (fun v26 wc => ∃ (kq : Nat) (x26_7 : Bool), v26 = .bool x26_7 ∧ Aside0 (bagnallref_rowsSet.j1 kq x5_1 x6_1 l0 (l0.length : Int) x14_1 x26_7 a1_0 a1_1 ((rd_T69 l0 x14_1).f0) ((rd_T69 l0 x14_1).f1) = some r) ∧ Aside0 (kq ≤ k1) ∧ Aside0 (Kd.R k69 69 wc w.heap.size (fun k_ => k_ ≠ gb110 ∧ k_ ≠ gb115) u5 x5_1) ∧ Aside0 (wc.heap[gb110]? = some (.cells #[.string a1_0, .string a1_1] 69 (0, 0))) ∧ Aside0 (wc.heap[gb115]? = some (.cells #[.string ((rd_T69 l0 x14_1).f0), .string ((rd_T69 l0 x14_1).f1)] 69 (0, 0))) ∧ Aside0 (Below w.heap.size w wc))
            case first =>
              have H := HC8.out
              clear HC8
              by_cases c12 : x6_1 = true
              · subst c12
                have H1 : (bagnallref_rowsSet.j1 k1 x5_1 true l0 (l0.length : Int) x14_1 false a1_0 a1_1 ((rd_T69 l0 x14_1).f0) ((rd_T69 l0 x14_1).f1)) = some r := by rw [if_pos rfl] at H; exact H
                clear H
                have H := H1
                clear H1
                have H' := Aside0.mk H
                clear H
                go_wp2
                go_meet
                case rel => exact ⟨_, (false), (by first | rfl | (simp; done) | (simp [*]; done)), H', ⟨by have := HK1.out; first | omega | exact Nat.le_refl _⟩, ⟨by (with_reducible repeat (first | apply Kd.R_alloc | apply Kd.R_drewN | apply Kd.R_drew)); exact Kd.R_mono (Kd.R_far (p := ⟨gb115, 1, none⟩) (Kd.R_far (p := ⟨gb115, 0, none⟩) (Kd.R_mono HO_5.out (fun k_ hk => (⟨hk, hk.2⟩ : _ ∧ k_ ≠ gb115))) (fun _ hk => hk.2) (.string ((rd_T69 l0 x14_1).f0))) (fun _ hk => hk.2) (.string ((rd_T69 l0 x14_1).f1))) (fun _ hk => ⟨hk.1.1, hk.1.2⟩)⟩, ⟨by (with_reducible repeat (first | refine blk_drewN ?_ _ | refine blk_drew ?_ | refine blk_alloc ?_ _)); refine blk_far ?_ NB110_115.out _; (with_reducible repeat (first | refine blk_drewN ?_ _ | refine blk_drew ?_ | refine blk_alloc ?_ _)); refine blk_far ?_ NB110_115.out _; (with_reducible repeat (first | refine blk_drewN ?_ _ | refine blk_drew ?_ | refine blk_alloc ?_ _)); exact BK110.out⟩, ⟨by (with_reducible repeat (first | refine blk_drewN ?_ _ | refine blk_drew ?_ | refine blk_alloc ?_ _)); refine blk_put (cs := #[.string ((rd_T69 l0 x14_1).f0), .string (⟨#[]⟩ : ByteArray)]) ?_ 1 _ rfl; (with_reducible repeat (first | refine blk_drewN ?_ _ | refine blk_drew ?_ | refine blk_alloc ?_ _)); refine blk_put (cs := #[.string (⟨#[]⟩ : ByteArray), .string (⟨#[]⟩ : ByteArray)]) ?_ 0 _ rfl; (with_reducible repeat (first | refine blk_drewN ?_ _ | refine blk_drew ?_ | refine blk_alloc ?_ _)); exact BK115.out⟩, ⟨by repeat (first | (with_reducible first | exact HB.out | apply below_alloc | apply pw_below_drewN | apply below_drew1 | refine below_set ?_ GE110.out | refine below_set ?_ GE115.out) | exact HB.out)⟩⟩
              · replace c12 := Bool.eq_false_iff.mpr c12
                subst c12
                have H1 : (bagnallref_rowsSet.j1 k1 x5_1 false l0 (l0.length : Int) x14_1 (Op.bytesLess a1_0.toList (((rd_T69 l0 x14_1).f0).toList)) a1_0 a1_1 ((rd_T69 l0 x14_1).f0) ((rd_T69 l0 x14_1).f1)) = some r := by rw [if_neg (show ¬ (false = true) by decide)] at H; exact H
                clear H
                have H := H1
                clear H1
                have H' := Aside0.mk H
                clear H
                have hnb13 := NB115_110.out
                have hnc13 := NB110_115.out
                have hcz14_0 : w9.cell? ⟨gb115, 0, none⟩ = some (.string (⟨#[]⟩ : ByteArray)) := (blk_cell BK115.out 0).trans rfl
                have hcz14_1 : w9.cell? ⟨gb115, 1, none⟩ = some (.string (⟨#[]⟩ : ByteArray)) := (blk_cell BK115.out 1).trans rfl
                have hfz14_0 := blk_frozen BK115.out 0
                have hfz14_1 := blk_frozen BK115.out 1
                have hcz15_0 : w9.cell? ⟨gb110, 0, none⟩ = some (.string a1_0) := (blk_cell BK110.out 0).trans rfl
                have hcz15_1 : w9.cell? ⟨gb110, 1, none⟩ = some (.string a1_1) := (blk_cell BK110.out 1).trans rfl
                have hfz15_0 := blk_frozen BK110.out 0
                have hfz15_1 := blk_frozen BK110.out 1
                go_wp2
                go_meet
                case rel => exact ⟨_, ((Op.bytesLess a1_0.toList (((rd_T69 l0 x14_1).f0).toList))), (by first | rfl | (simp; done) | (simp [*]; done)), H', ⟨by have := HK1.out; first | omega | exact Nat.le_refl _⟩, ⟨by (with_reducible repeat (first | apply Kd.R_alloc | apply Kd.R_drewN | apply Kd.R_drew)); exact Kd.R_mono (Kd.R_far (p := ⟨gb115, 1, none⟩) (Kd.R_far (p := ⟨gb115, 0, none⟩) (Kd.R_mono HO_5.out (fun k_ hk => (⟨hk, hk.2⟩ : _ ∧ k_ ≠ gb115))) (fun _ hk => hk.2) (.string ((rd_T69 l0 x14_1).f0))) (fun _ hk => hk.2) (.string ((rd_T69 l0 x14_1).f1))) (fun _ hk => ⟨hk.1.1, hk.1.2⟩)⟩, ⟨by (with_reducible repeat (first | refine blk_drewN ?_ _ | refine blk_drew ?_ | refine blk_alloc ?_ _)); refine blk_far ?_ NB110_115.out _; (with_reducible repeat (first | refine blk_drewN ?_ _ | refine blk_drew ?_ | refine blk_alloc ?_ _)); refine blk_far ?_ NB110_115.out _; (with_reducible repeat (first | refine blk_drewN ?_ _ | refine blk_drew ?_ | refine blk_alloc ?_ _)); exact BK110.out⟩, ⟨by (with_reducible repeat (first | refine blk_drewN ?_ _ | refine blk_drew ?_ | refine blk_alloc ?_ _)); refine blk_put (cs := #[.string ((rd_T69 l0 x14_1).f0), .string (⟨#[]⟩ : ByteArray)]) ?_ 1 _ rfl; (with_reducible repeat (first | refine blk_drewN ?_ _ | refine blk_drew ?_ | refine blk_alloc ?_ _)); refine blk_put (cs := #[.string (⟨#[]⟩ : ByteArray), .string (⟨#[]⟩ : ByteArray)]) ?_ 0 _ rfl; (with_reducible repeat (first | refine blk_drewN ?_ _ | refine blk_drew ?_ | refine blk_alloc ?_ _)); exact BK115.out⟩, ⟨by repeat (first | (with_reducible first | exact HB.out | apply below_alloc | apply pw_below_drewN | apply below_drew1 | refine below_set ?_ GE110.out | refine below_set ?_ GE115.out) | exact HB.out)⟩⟩
            case rest =>
              clear HC8
              try clear c1
              try clear p1
              try clear q1
              try clear hx1
              try clear p2
              try clear c5
              try clear c5b0
              try clear c6
              try clear c6b0
              try clear c7
              try clear c7b0
              try clear c10
              try clear p11
              try clear q11
              try clear hx11
              try clear c12
              try clear c13
              try clear hcz11_0
              try clear hcz11_1
              try clear hcz14_0
              try clear hcz14_1
              try clear hcz15_0
              try clear hcz15_1
              try clear hcz4_0
              try clear hcz4_1
              try clear hfz11_0
              try clear hfz11_1
              try clear hfz14_0
              try clear hfz14_1
              try clear hfz15_0
              try clear hfz15_1
              try clear hfz4_0
              try clear hfz4_1
              try clear hx114_0
              try clear hx114_1
              try clear p114
              try clear p2
              try clear q114
              obtain ⟨kq, x26_7, rfl, HA, HJ7, HO_5, BK110, BK115, HB⟩ := hcut
              cases kq with
              | zero => exact absurd HA.out (by simp [bagnallref_rowsSet.j1])
              | succ kj7 =>
                have H := HA.out
                clear HA
                simp only [bagnallref_rowsSet.j1] at H
                by_cases c16 : x26_7 = true
                · subst c16
                  have H1 : (if x5_1.length < 4398046511104 then ((some (x5_1 ++ [(⟨a1_0, a1_1⟩ : S69)] : List (S69))).bind fun y116 => (if ((rd_T69 l0 x14_1).f0).toList = a1_0.toList then (bagnallref_rowsSet.l0 kj7 y116 true l0 (l0.length : Int) (wrap64 (x14_1 + 1)) a1_0 a1_1) else (if y116.length < 4398046511104 then (bagnallref_rowsSet.l0 kj7 (y116 ++ [(⟨((rd_T69 l0 x14_1).f0), ((rd_T69 l0 x14_1).f1)⟩ : S69)]) true l0 (l0.length : Int) (wrap64 (x14_1 + 1)) a1_0 a1_1) else (none)))) else (none)) = some r := by rw [if_pos rfl] at H; exact H
                  clear H
                  have H := H1
                  clear H1
                  by_cases c17 : x5_1.length < 4398046511104
                  · rw [if_pos c17] at H
                    have LMc17 := Aside0.mk c17
                    clear c17
                    obtain ⟨y116, hy116⟩ : ∃ y_ : List (S69), y_ = (x5_1 ++ [(⟨a1_0, a1_1⟩ : S69)]) := ⟨_, rfl⟩
                    replace H : (if ((rd_T69 l0 x14_1).f0).toList = a1_0.toList then (bagnallref_rowsSet.l0 kj7 y116 true l0 (l0.length : Int) (wrap64 (x14_1 + 1)) a1_0 a1_1) else (if y116.length < 4398046511104 then (bagnallref_rowsSet.l0 kj7 (y116 ++ [(⟨((rd_T69 l0 x14_1).f0), ((rd_T69 l0 x14_1).f1)⟩ : S69)]) true l0 (l0.length : Int) (wrap64 (x14_1 + 1)) a1_0 a1_1) else (none))) = some r := by first | (rw [hy116]; with_reducible exact H) | (have H2_ := (Option.bind_some _ _).symm.trans H; rw [hy116]; with_reducible exact H2_) | (have H2_ := (Option.bind_some _ _).symm.trans H; with_reducible exact H2_) | with_reducible exact H | (rw [hy116]; exact H) | exact H
                    have Ny116 := Aside0.mk hy116
                    clear hy116
                    by_cases c18 : ((rd_T69 l0 x14_1).f0).toList = a1_0.toList
                    · rw [if_pos c18] at H
                      have c18b0 : (((rd_T69 l0 x14_1).f0).toList == a1_0.toList) = true := beq_iff_eq.mpr c18
                      have c18b1 : (((rd_T69 l0 x14_1).f0).toList != a1_0.toList) = false := bne_eq_false_iff_eq.mpr c18
                      clear c18
                      have H' := Aside0.mk H
                      clear H
                      have hnb19 := NB110_115.out
                      have hnc19 := NB115_110.out
                      have hcz20_0 : wc.cell? ⟨gb110, 0, none⟩ = some (.string a1_0) := (blk_cell BK110.out 0).trans rfl
                      have hcz20_1 : wc.cell? ⟨gb110, 1, none⟩ = some (.string a1_1) := (blk_cell BK110.out 1).trans rfl
                      have hfz20_0 := blk_frozen BK110.out 0
                      have hfz20_1 := blk_frozen BK110.out 1
                      go_wp2_with (first | ((with_reducible refine gate_builtin (b := .append) (xs := #[.tmp 27, .tmp 29]) rfl ?_); at_builtin; refine Kd.R_append k69 (w0 := w) w.heap.size rfl (.tmp 27) (.tmp 29) 24 69 (.agg #[(.string ⟨#[]⟩), (.string ⟨#[]⟩)]) 32 rfl Try.underlying24 info69 rfl (by decide) (by omega) u5 x5_1 (⟨a1_0, a1_1⟩ : S69) [.string a1_0, .string a1_1] (fun k_ => k_ ≠ gb110 ∧ k_ ≠ gb115) (fun _ => False) rfl rfl ?aP (fun _ hk => hk.elim) ?aF ?aO ?aB ?aS ?aL ?_; (case aP => exact k69_mkM _ _ _ (⟨a1_0, a1_1⟩ : S69)); (case aB => exact (by repeat (first | (with_reducible first | exact HB.out | apply below_alloc | apply pw_below_drewN | apply below_drew1 | refine below_set ?_ GE110.out | refine below_set ?_ GE115.out) | exact HB.out))); (case aF => exact (fun k_ hk => ⟨Kd.freshB (g := gb110) (o := .cells #[.string a1_0, .string a1_1] 69 (0, 0)) (by (with_reducible repeat (first | refine blk_drewN ?_ _ | refine blk_drew ?_ | refine blk_alloc ?_ _)); exact BK110.out) k_ hk, Kd.freshB (g := gb115) (o := .cells #[.string ((rd_T69 l0 x14_1).f0), .string ((rd_T69 l0 x14_1).f1)] 69 (0, 0)) (by (with_reducible repeat (first | refine blk_drewN ?_ _ | refine blk_drew ?_ | refine blk_alloc ?_ _)); exact BK115.out) k_ hk⟩)); (case aO => exact (by (with_reducible repeat (first | apply Kd.R_alloc | apply Kd.R_drewN | apply Kd.R_drew)); exact HO_5.out)); (case aS => exact (below_size (by repeat (first | (with_reducible first | exact HB.out | apply below_alloc | apply pw_below_drewN | apply below_drew1 | refine below_set ?_ GE110.out | refine below_set ?_ GE115.out) | exact HB.out)))); (case aL => have := LMc17.out; omega); intro v117 w21 ho hb hg hat; rw [← Ny116.out] at ho; have n0_ := Aside0.mk (blk_grown (g := gb110) (o := .cells #[.string a1_0, .string a1_1] 69 (0, 0)) (by (with_reducible repeat (first | refine blk_drewN ?_ _ | refine blk_drew ?_ | refine blk_alloc ?_ _)); exact BK110.out) hg (Kd.R_away HO_5.out (fun _ hk => hk.1))); have n1_ := Aside0.mk (blk_grown (g := gb115) (o := .cells #[.string ((rd_T69 l0 x14_1).f0), .string ((rd_T69 l0 x14_1).f1)] 69 (0, 0)) (by (with_reducible repeat (first | refine blk_drewN ?_ _ | refine blk_drew ?_ | refine blk_alloc ?_ _)); exact BK115.out) hg (Kd.R_away HO_5.out (fun _ hk => hk.2))); have n2_ := Aside0.mk (hb); have n3_ := Aside0.mk (ho); clear BK110; clear BK115; clear HB; clear HO_5; have BK110 := n0_; have BK115 := n1_; have HB := n2_; have HO118 := n3_; clear n0_ n1_ n2_ n3_; clear ho hb hg hat; have hcz22_0 : w21.cell? ⟨gb115, 0, none⟩ = some (.string ((rd_T69 l0 x14_1).f0)) := (blk_cell BK115.out 0).trans rfl; have hcz22_1 : w21.cell? ⟨gb115, 1, none⟩ = some (.string ((rd_T69 l0 x14_1).f1)) := (blk_cell BK115.out 1).trans rfl; have hfz22_0 := blk_frozen BK115.out 0; have hfz22_1 := blk_frozen BK115.out 1; have hcz23_0 : w21.cell? ⟨gb110, 0, none⟩ = some (.string a1_0) := (blk_cell BK110.out 0).trans rfl; have hcz23_1 : w21.cell? ⟨gb110, 1, none⟩ = some (.string a1_1) := (blk_cell BK110.out 1).trans rfl; have hfz23_0 := blk_frozen BK110.out 0; have hfz23_1 := blk_frozen BK110.out 1))
                      go_roundg kj7
                      case measure => have := HK1.out; have := HJ7.out; omega
                      case rel => exact ⟨(y116), (true), (wrap64 (x14_1 + 1)), (by first | rfl | (simp; done) | (simp [*]; done)), (by first | rfl | (simp; done) | (simp [*]; done)), H', ⟨by have := HK1.out; have := HJ7.out; omega⟩, ⟨by (with_reducible repeat (first | apply Kd.R_alloc | apply Kd.R_drewN | apply Kd.R_drew)); exact Kd.R_mono HO118.out (fun _ hk => hk.1)⟩, ⟨by (with_reducible repeat (first | refine blk_drewN ?_ _ | refine blk_drew ?_ | refine blk_alloc ?_ _)); exact BK110.out⟩, ⟨by repeat (first | (with_reducible first | exact HB.out | apply below_alloc | apply pw_below_drewN | apply below_drew1 | refine below_set ?_ GE110.out | refine below_set ?_ GE115.out) | exact HB.out)⟩⟩
                    · rw [if_neg c18] at H
                      have c18b0 : (((rd_T69 l0 x14_1).f0).toList == a1_0.toList) = false := beq_eq_false_iff_ne.mpr c18
                      have c18b1 : (((rd_T69 l0 x14_1).f0).toList != a1_0.toList) = true := bne_iff_ne.mpr c18
                      by_cases c24 : y116.length < 4398046511104
                      · rw [if_pos c24] at H
                        have LMc24 := Aside0.mk c24
                        clear c24
                        obtain ⟨y119, hy119⟩ : ∃ y_ : List (S69), y_ = (y116 ++ [(⟨((rd_T69 l0 x14_1).f0), ((rd_T69 l0 x14_1).f1)⟩ : S69)]) := ⟨_, rfl⟩
                        replace H : (bagnallref_rowsSet.l0 kj7 y119 true l0 (l0.length : Int) (wrap64 (x14_1 + 1)) a1_0 a1_1) = some r := by first | (rw [hy119]; with_reducible exact H) | (have H2_ := (Option.bind_some _ _).symm.trans H; rw [hy119]; with_reducible exact H2_) | (have H2_ := (Option.bind_some _ _).symm.trans H; with_reducible exact H2_) | with_reducible exact H | (rw [hy119]; exact H) | exact H
                        have Ny119 := Aside0.mk hy119
                        clear hy119
                        have H' := Aside0.mk H
                        clear H
                        have hnb25 := NB110_115.out
                        have hnc25 := NB115_110.out
                        have hcz26_0 : wc.cell? ⟨gb110, 0, none⟩ = some (.string a1_0) := (blk_cell BK110.out 0).trans rfl
                        have hcz26_1 : wc.cell? ⟨gb110, 1, none⟩ = some (.string a1_1) := (blk_cell BK110.out 1).trans rfl
                        have hfz26_0 := blk_frozen BK110.out 0
                        have hfz26_1 := blk_frozen BK110.out 1
                        go_wp2_with (first | ((with_reducible refine gate_builtin (b := .append) (xs := #[.tmp 27, .tmp 29]) rfl ?_); at_builtin; refine Kd.R_append k69 (w0 := w) w.heap.size rfl (.tmp 27) (.tmp 29) 24 69 (.agg #[(.string ⟨#[]⟩), (.string ⟨#[]⟩)]) 32 rfl Try.underlying24 info69 rfl (by decide) (by omega) u5 x5_1 (⟨a1_0, a1_1⟩ : S69) [.string a1_0, .string a1_1] (fun k_ => k_ ≠ gb110 ∧ k_ ≠ gb115) (fun _ => False) rfl rfl ?aP (fun _ hk => hk.elim) ?aF ?aO ?aB ?aS ?aL ?_; (case aP => exact k69_mkM _ _ _ (⟨a1_0, a1_1⟩ : S69)); (case aB => exact (by repeat (first | (with_reducible first | exact HB.out | apply below_alloc | apply pw_below_drewN | apply below_drew1 | refine below_set ?_ GE110.out | refine below_set ?_ GE115.out) | exact HB.out))); (case aF => exact (fun k_ hk => ⟨Kd.freshB (g := gb110) (o := .cells #[.string a1_0, .string a1_1] 69 (0, 0)) (by (with_reducible repeat (first | refine blk_drewN ?_ _ | refine blk_drew ?_ | refine blk_alloc ?_ _)); exact BK110.out) k_ hk, Kd.freshB (g := gb115) (o := .cells #[.string ((rd_T69 l0 x14_1).f0), .string ((rd_T69 l0 x14_1).f1)] 69 (0, 0)) (by (with_reducible repeat (first | refine blk_drewN ?_ _ | refine blk_drew ?_ | refine blk_alloc ?_ _)); exact BK115.out) k_ hk⟩)); (case aO => exact (by (with_reducible repeat (first | apply Kd.R_alloc | apply Kd.R_drewN | apply Kd.R_drew)); exact HO_5.out)); (case aS => exact (below_size (by repeat (first | (with_reducible first | exact HB.out | apply below_alloc | apply pw_below_drewN | apply below_drew1 | refine below_set ?_ GE110.out | refine below_set ?_ GE115.out) | exact HB.out)))); (case aL => have := LMc17.out; omega); intro v117 w27 ho hb hg hat; rw [← Ny116.out] at ho; have n0_ := Aside0.mk (blk_grown (g := gb110) (o := .cells #[.string a1_0, .string a1_1] 69 (0, 0)) (by (with_reducible repeat (first | refine blk_drewN ?_ _ | refine blk_drew ?_ | refine blk_alloc ?_ _)); exact BK110.out) hg (Kd.R_away HO_5.out (fun _ hk => hk.1))); have n1_ := Aside0.mk (blk_grown (g := gb115) (o := .cells #[.string ((rd_T69 l0 x14_1).f0), .string ((rd_T69 l0 x14_1).f1)] 69 (0, 0)) (by (with_reducible repeat (first | refine blk_drewN ?_ _ | refine blk_drew ?_ | refine blk_alloc ?_ _)); exact BK115.out) hg (Kd.R_away HO_5.out (fun _ hk => hk.2))); have n2_ := Aside0.mk (hb); have n3_ := Aside0.mk (ho); clear BK110; clear BK115; clear HB; clear HO_5; have BK110 := n0_; have BK115 := n1_; have HB := n2_; have HO118 := n3_; clear n0_ n1_ n2_ n3_; clear ho hb hg hat; have hcz28_0 : w27.cell? ⟨gb115, 0, none⟩ = some (.string ((rd_T69 l0 x14_1).f0)) := (blk_cell BK115.out 0).trans rfl; have hcz28_1 : w27.cell? ⟨gb115, 1, none⟩ = some (.string ((rd_T69 l0 x14_1).f1)) := (blk_cell BK115.out 1).trans rfl; have hfz28_0 := blk_frozen BK115.out 0; have hfz28_1 := blk_frozen BK115.out 1; have hcz29_0 : w27.cell? ⟨gb110, 0, none⟩ = some (.string a1_0) := (blk_cell BK110.out 0).trans rfl; have hcz29_1 : w27.cell? ⟨gb110, 1, none⟩ = some (.string a1_1) := (blk_cell BK110.out 1).trans rfl; have hfz29_0 := blk_frozen BK110.out 0; have hfz29_1 := blk_frozen BK110.out 1) | ((with_reducible refine gate_builtin (b := .append) (xs := #[.tmp 36, .tmp 38]) rfl ?_); at_builtin; refine Kd.R_append k69 (w0 := w) w.heap.size rfl (.tmp 36) (.tmp 38) 24 69 (.agg #[(.string ⟨#[]⟩), (.string ⟨#[]⟩)]) 32 rfl Try.underlying24 info69 rfl (by decide) (by omega) v117 y116 (⟨((rd_T69 l0 x14_1).f0), ((rd_T69 l0 x14_1).f1)⟩ : S69) [.string ((rd_T69 l0 x14_1).f0), .string ((rd_T69 l0 x14_1).f1)] (fun k_ => k_ ≠ gb110 ∧ k_ ≠ gb115) (fun _ => False) rfl rfl ?aP (fun _ hk => hk.elim) ?aF ?aO ?aB ?aS ?aL ?_; (case aP => exact k69_mkM _ _ _ (⟨((rd_T69 l0 x14_1).f0), ((rd_T69 l0 x14_1).f1)⟩ : S69)); (case aB => exact (by repeat (first | (with_reducible first | exact HB.out | apply below_alloc | apply pw_below_drewN | apply below_drew1 | refine below_set ?_ GE110.out | refine below_set ?_ GE115.out) | exact HB.out))); (case aF => exact (fun k_ hk => ⟨Kd.freshB (g := gb110) (o := .cells #[.string a1_0, .string a1_1] 69 (0, 0)) (by (with_reducible repeat (first | refine blk_drewN ?_ _ | refine blk_drew ?_ | refine blk_alloc ?_ _)); exact BK110.out) k_ hk, Kd.freshB (g := gb115) (o := .cells #[.string ((rd_T69 l0 x14_1).f0), .string ((rd_T69 l0 x14_1).f1)] 69 (0, 0)) (by (with_reducible repeat (first | refine blk_drewN ?_ _ | refine blk_drew ?_ | refine blk_alloc ?_ _)); exact BK115.out) k_ hk⟩)); (case aO => exact (by (with_reducible repeat (first | apply Kd.R_alloc | apply Kd.R_drewN | apply Kd.R_drew)); exact HO118.out)); (case aS => exact (below_size (by repeat (first | (with_reducible first | exact HB.out | apply below_alloc | apply pw_below_drewN | apply below_drew1 | refine below_set ?_ GE110.out | refine below_set ?_ GE115.out) | exact HB.out)))); (case aL => have := LMc24.out; omega); intro v120 w30 ho hb hg hat; rw [← Ny119.out] at ho; have n0_ := Aside0.mk (blk_grown (g := gb110) (o := .cells #[.string a1_0, .string a1_1] 69 (0, 0)) (by (with_reducible repeat (first | refine blk_drewN ?_ _ | refine blk_drew ?_ | refine blk_alloc ?_ _)); exact BK110.out) hg (Kd.R_away HO118.out (fun _ hk => hk.1))); have n1_ := Aside0.mk (blk_grown (g := gb115) (o := .cells #[.string ((rd_T69 l0 x14_1).f0), .string ((rd_T69 l0 x14_1).f1)] 69 (0, 0)) (by (with_reducible repeat (first | refine blk_drewN ?_ _ | refine blk_drew ?_ | refine blk_alloc ?_ _)); exact BK115.out) hg (Kd.R_away HO118.out (fun _ hk => hk.2))); have n2_ := Aside0.mk (hb); have n3_ := Aside0.mk (ho); clear BK110; clear BK115; clear HB; clear HO118; have BK110 := n0_; have BK115 := n1_; have HB := n2_; have HO121 := n3_; clear n0_ n1_ n2_ n3_; clear ho hb hg hat))
                        go_roundg kj7
                        case measure => have := HK1.out; have := HJ7.out; omega
                        case rel => exact ⟨(y119), (true), (wrap64 (x14_1 + 1)), (by first | rfl | (simp; done) | (simp [*]; done)), (by first | rfl | (simp; done) | (simp [*]; done)), H', ⟨by have := HK1.out; have := HJ7.out; omega⟩, ⟨by (with_reducible repeat (first | apply Kd.R_alloc | apply Kd.R_drewN | apply Kd.R_drew)); exact Kd.R_mono HO121.out (fun _ hk => hk.1)⟩, ⟨by (with_reducible repeat (first | refine blk_drewN ?_ _ | refine blk_drew ?_ | refine blk_alloc ?_ _)); exact BK110.out⟩, ⟨by repeat (first | (with_reducible first | exact HB.out | apply below_alloc | apply pw_below_drewN | apply below_drew1 | refine below_set ?_ GE110.out | refine below_set ?_ GE115.out) | exact HB.out)⟩⟩
                      · rw [if_neg c24] at H
                        exact absurd H (by simp)
                  · rw [if_neg c17] at H
                    exact absurd H (by simp)
                · replace c16 := Bool.eq_false_iff.mpr c16
                  subst c16
                  have H1 : (if ((rd_T69 l0 x14_1).f0).toList = a1_0.toList then (bagnallref_rowsSet.l0 kj7 x5_1 x6_1 l0 (l0.length : Int) (wrap64 (x14_1 + 1)) a1_0 a1_1) else (if x5_1.length < 4398046511104 then (bagnallref_rowsSet.l0 kj7 (x5_1 ++ [(⟨((rd_T69 l0 x14_1).f0), ((rd_T69 l0 x14_1).f1)⟩ : S69)]) x6_1 l0 (l0.length : Int) (wrap64 (x14_1 + 1)) a1_0 a1_1) else (none))) = some r := by rw [if_neg (show ¬ (false = true) by decide)] at H; exact H
                  clear H
                  have H := H1
                  clear H1
                  by_cases c31 : ((rd_T69 l0 x14_1).f0).toList = a1_0.toList
                  · rw [if_pos c31] at H
                    have c31b0 : (((rd_T69 l0 x14_1).f0).toList == a1_0.toList) = true := beq_iff_eq.mpr c31
                    have c31b1 : (((rd_T69 l0 x14_1).f0).toList != a1_0.toList) = false := bne_eq_false_iff_eq.mpr c31
                    clear c31
                    have H' := Aside0.mk H
                    clear H
                    have hnb32 := NB115_110.out
                    have hnc32 := NB110_115.out
                    have hcz33_0 : wc.cell? ⟨gb115, 0, none⟩ = some (.string ((rd_T69 l0 x14_1).f0)) := (blk_cell BK115.out 0).trans rfl
                    have hcz33_1 : wc.cell? ⟨gb115, 1, none⟩ = some (.string ((rd_T69 l0 x14_1).f1)) := (blk_cell BK115.out 1).trans rfl
                    have hfz33_0 := blk_frozen BK115.out 0
                    have hfz33_1 := blk_frozen BK115.out 1
                    have hcz34_0 : wc.cell? ⟨gb110, 0, none⟩ = some (.string a1_0) := (blk_cell BK110.out 0).trans rfl
                    have hcz34_1 : wc.cell? ⟨gb110, 1, none⟩ = some (.string a1_1) := (blk_cell BK110.out 1).trans rfl
                    have hfz34_0 := blk_frozen BK110.out 0
                    have hfz34_1 := blk_frozen BK110.out 1
                    go_wp2
                    go_roundg kj7
                    case measure => have := HK1.out; have := HJ7.out; omega
                    case rel => exact ⟨(x5_1), (x6_1), (wrap64 (x14_1 + 1)), (by first | rfl | (simp; done) | (simp [*]; done)), (by first | rfl | (simp; done) | (simp [*]; done)), H', ⟨by have := HK1.out; have := HJ7.out; omega⟩, ⟨by (with_reducible repeat (first | apply Kd.R_alloc | apply Kd.R_drewN | apply Kd.R_drew)); exact Kd.R_mono HO_5.out (fun _ hk => hk.1)⟩, ⟨by (with_reducible repeat (first | refine blk_drewN ?_ _ | refine blk_drew ?_ | refine blk_alloc ?_ _)); exact BK110.out⟩, ⟨by repeat (first | (with_reducible first | exact HB.out | apply below_alloc | apply pw_below_drewN | apply below_drew1 | refine below_set ?_ GE110.out | refine below_set ?_ GE115.out) | exact HB.out)⟩⟩
                  · rw [if_neg c31] at H
                    have c31b0 : (((rd_T69 l0 x14_1).f0).toList == a1_0.toList) = false := beq_eq_false_iff_ne.mpr c31
                    have c31b1 : (((rd_T69 l0 x14_1).f0).toList != a1_0.toList) = true := bne_iff_ne.mpr c31
                    by_cases c35 : x5_1.length < 4398046511104
                    · rw [if_pos c35] at H
                      have LMc35 := Aside0.mk c35
                      clear c35
                      obtain ⟨y122, hy122⟩ : ∃ y_ : List (S69), y_ = (x5_1 ++ [(⟨((rd_T69 l0 x14_1).f0), ((rd_T69 l0 x14_1).f1)⟩ : S69)]) := ⟨_, rfl⟩
                      replace H : (bagnallref_rowsSet.l0 kj7 y122 x6_1 l0 (l0.length : Int) (wrap64 (x14_1 + 1)) a1_0 a1_1) = some r := by first | (rw [hy122]; with_reducible exact H) | (have H2_ := (Option.bind_some _ _).symm.trans H; rw [hy122]; with_reducible exact H2_) | (have H2_ := (Option.bind_some _ _).symm.trans H; with_reducible exact H2_) | with_reducible exact H | (rw [hy122]; exact H) | exact H
                      have Ny122 := Aside0.mk hy122
                      clear hy122
                      have H' := Aside0.mk H
                      clear H
                      have hnb36 := NB115_110.out
                      have hnc36 := NB110_115.out
                      have hcz37_0 : wc.cell? ⟨gb115, 0, none⟩ = some (.string ((rd_T69 l0 x14_1).f0)) := (blk_cell BK115.out 0).trans rfl
                      have hcz37_1 : wc.cell? ⟨gb115, 1, none⟩ = some (.string ((rd_T69 l0 x14_1).f1)) := (blk_cell BK115.out 1).trans rfl
                      have hfz37_0 := blk_frozen BK115.out 0
                      have hfz37_1 := blk_frozen BK115.out 1
                      have hcz38_0 : wc.cell? ⟨gb110, 0, none⟩ = some (.string a1_0) := (blk_cell BK110.out 0).trans rfl
                      have hcz38_1 : wc.cell? ⟨gb110, 1, none⟩ = some (.string a1_1) := (blk_cell BK110.out 1).trans rfl
                      have hfz38_0 := blk_frozen BK110.out 0
                      have hfz38_1 := blk_frozen BK110.out 1
                      go_wp2_with (first | ((with_reducible refine gate_builtin (b := .append) (xs := #[.tmp 36, .tmp 38]) rfl ?_); at_builtin; refine Kd.R_append k69 (w0 := w) w.heap.size rfl (.tmp 36) (.tmp 38) 24 69 (.agg #[(.string ⟨#[]⟩), (.string ⟨#[]⟩)]) 32 rfl Try.underlying24 info69 rfl (by decide) (by omega) u5 x5_1 (⟨((rd_T69 l0 x14_1).f0), ((rd_T69 l0 x14_1).f1)⟩ : S69) [.string ((rd_T69 l0 x14_1).f0), .string ((rd_T69 l0 x14_1).f1)] (fun k_ => k_ ≠ gb110 ∧ k_ ≠ gb115) (fun _ => False) rfl rfl ?aP (fun _ hk => hk.elim) ?aF ?aO ?aB ?aS ?aL ?_; (case aP => exact k69_mkM _ _ _ (⟨((rd_T69 l0 x14_1).f0), ((rd_T69 l0 x14_1).f1)⟩ : S69)); (case aB => exact (by repeat (first | (with_reducible first | exact HB.out | apply below_alloc | apply pw_below_drewN | apply below_drew1 | refine below_set ?_ GE110.out | refine below_set ?_ GE115.out) | exact HB.out))); (case aF => exact (fun k_ hk => ⟨Kd.freshB (g := gb110) (o := .cells #[.string a1_0, .string a1_1] 69 (0, 0)) (by (with_reducible repeat (first | refine blk_drewN ?_ _ | refine blk_drew ?_ | refine blk_alloc ?_ _)); exact BK110.out) k_ hk, Kd.freshB (g := gb115) (o := .cells #[.string ((rd_T69 l0 x14_1).f0), .string ((rd_T69 l0 x14_1).f1)] 69 (0, 0)) (by (with_reducible repeat (first | refine blk_drewN ?_ _ | refine blk_drew ?_ | refine blk_alloc ?_ _)); exact BK115.out) k_ hk⟩)); (case aO => exact (by (with_reducible repeat (first | apply Kd.R_alloc | apply Kd.R_drewN | apply Kd.R_drew)); exact HO_5.out)); (case aS => exact (below_size (by repeat (first | (with_reducible first | exact HB.out | apply below_alloc | apply pw_below_drewN | apply below_drew1 | refine below_set ?_ GE110.out | refine below_set ?_ GE115.out) | exact HB.out)))); (case aL => have := LMc35.out; omega); intro v123 w39 ho hb hg hat; rw [← Ny122.out] at ho; have n0_ := Aside0.mk (blk_grown (g := gb110) (o := .cells #[.string a1_0, .string a1_1] 69 (0, 0)) (by (with_reducible repeat (first | refine blk_drewN ?_ _ | refine blk_drew ?_ | refine blk_alloc ?_ _)); exact BK110.out) hg (Kd.R_away HO_5.out (fun _ hk => hk.1))); have n1_ := Aside0.mk (blk_grown (g := gb115) (o := .cells #[.string ((rd_T69 l0 x14_1).f0), .string ((rd_T69 l0 x14_1).f1)] 69 (0, 0)) (by (with_reducible repeat (first | refine blk_drewN ?_ _ | refine blk_drew ?_ | refine blk_alloc ?_ _)); exact BK115.out) hg (Kd.R_away HO_5.out (fun _ hk => hk.2))); have n2_ := Aside0.mk (hb); have n3_ := Aside0.mk (ho); clear BK110; clear BK115; clear HB; clear HO_5; have BK110 := n0_; have BK115 := n1_; have HB := n2_; have HO124 := n3_; clear n0_ n1_ n2_ n3_; clear ho hb hg hat))
                      go_roundg kj7
                      case measure => have := HK1.out; have := HJ7.out; omega
                      case rel => exact ⟨(y122), (x6_1), (wrap64 (x14_1 + 1)), (by first | rfl | (simp; done) | (simp [*]; done)), (by first | rfl | (simp; done) | (simp [*]; done)), H', ⟨by have := HK1.out; have := HJ7.out; omega⟩, ⟨by (with_reducible repeat (first | apply Kd.R_alloc | apply Kd.R_drewN | apply Kd.R_drew)); exact Kd.R_mono HO124.out (fun _ hk => hk.1)⟩, ⟨by (with_reducible repeat (first | refine blk_drewN ?_ _ | refine blk_drew ?_ | refine blk_alloc ?_ _)); exact BK110.out⟩, ⟨by repeat (first | (with_reducible first | exact HB.out | apply below_alloc | apply pw_below_drewN | apply below_drew1 | refine below_set ?_ GE110.out | refine below_set ?_ GE115.out) | exact HB.out)⟩⟩
                    · rw [if_neg c35] at H
                      exact absurd H (by simp)
          · rw [if_neg c7] at H
            exact absurd H (by simp)
        · rw [if_neg c6] at H
          exact absurd H (by simp)
      · rw [if_neg c5] at H
        have c5b0 : decide (x14_1 < (l0.length : Int)) = false := decide_eq_false c5
        clear c5
        by_cases c40 : x6_1 = true
        · subst c40
          have H1 : (some x5_1) = some r := by rw [if_pos rfl] at H; exact H
          clear H
          have H := H1
          clear H1
          obtain rfl := Option.some.inj H
          go_wp2
          go_ret
          exact ⟨_, by first | rfl | (simp [errW_none, errW_some] <;> rfl) | (simp [*, errW_none, errW_some] <;> rfl), by (with_reducible repeat (first | apply Kd.R_alloc | apply Kd.R_drewN | apply Kd.R_drew)); exact Kd.R_mono HO_5.out (fun _ hk => trivial), by repeat (first | (with_reducible first | exact HB.out | apply below_alloc | apply pw_below_drewN | apply below_drew1 | refine below_set ?_ GE110.out) | exact HB.out)⟩
        · replace c40 := Bool.eq_false_iff.mpr c40
          subst c40
          have H1 : (if x5_1.length < 4398046511104 then (some (x5_1 ++ [(⟨a1_0, a1_1⟩ : S69)])) else (none)) = some r := by rw [if_neg (show ¬ (false = true) by decide)] at H; exact H
          clear H
          have H := H1
          clear H1
          by_cases c41 : x5_1.length < 4398046511104
          · rw [if_pos c41] at H
            have LMc41 := Aside0.mk c41
            clear c41
            obtain ⟨y111, hy111⟩ : ∃ y_ : List (S69), y_ = (x5_1 ++ [(⟨a1_0, a1_1⟩ : S69)]) := ⟨_, rfl⟩
            replace H : (some y111) = some r := by first | (rw [hy111]; with_reducible exact H) | (have H2_ := (Option.bind_some _ _).symm.trans H; rw [hy111]; with_reducible exact H2_) | (have H2_ := (Option.bind_some _ _).symm.trans H; with_reducible exact H2_) | with_reducible exact H | (rw [hy111]; exact H) | exact H
            have Ny111 := Aside0.mk hy111
            clear hy111
            obtain rfl := Option.some.inj H
            have hcz42_0 : wr.cell? ⟨gb110, 0, none⟩ = some (.string a1_0) := (blk_cell BK110.out 0).trans rfl
            have hcz42_1 : wr.cell? ⟨gb110, 1, none⟩ = some (.string a1_1) := (blk_cell BK110.out 1).trans rfl
            have hfz42_0 := blk_frozen BK110.out 0
            have hfz42_1 := blk_frozen BK110.out 1
            go_wp2_with (first | ((with_reducible refine gate_builtin (b := .append) (xs := #[.tmp 43, .tmp 45]) rfl ?_); at_builtin; refine Kd.R_append k69 (w0 := w) w.heap.size rfl (.tmp 43) (.tmp 45) 24 69 (.agg #[(.string ⟨#[]⟩), (.string ⟨#[]⟩)]) 32 rfl Try.underlying24 info69 rfl (by decide) (by omega) u5 x5_1 (⟨a1_0, a1_1⟩ : S69) [.string a1_0, .string a1_1] (fun k_ => k_ ≠ gb110) (fun _ => False) rfl rfl ?aP (fun _ hk => hk.elim) ?aF ?aO ?aB ?aS ?aL ?_; (case aP => exact k69_mkM _ _ _ (⟨a1_0, a1_1⟩ : S69)); (case aB => exact (by repeat (first | (with_reducible first | exact HB.out | apply below_alloc | apply pw_below_drewN | apply below_drew1 | refine below_set ?_ GE110.out) | exact HB.out))); (case aF => exact (fun k_ hk => Kd.freshB (g := gb110) (o := .cells #[.string a1_0, .string a1_1] 69 (0, 0)) (by (with_reducible repeat (first | refine blk_drewN ?_ _ | refine blk_drew ?_ | refine blk_alloc ?_ _)); exact BK110.out) k_ hk)); (case aO => exact (by (with_reducible repeat (first | apply Kd.R_alloc | apply Kd.R_drewN | apply Kd.R_drew)); exact HO_5.out)); (case aS => exact (below_size (by repeat (first | (with_reducible first | exact HB.out | apply below_alloc | apply pw_below_drewN | apply below_drew1 | refine below_set ?_ GE110.out) | exact HB.out)))); (case aL => have := LMc41.out; omega); intro v112 w43 ho hb hg hat; rw [← Ny111.out] at ho; have n0_ := Aside0.mk (blk_grown (g := gb110) (o := .cells #[.string a1_0, .string a1_1] 69 (0, 0)) (by (with_reducible repeat (first | refine blk_drewN ?_ _ | refine blk_drew ?_ | refine blk_alloc ?_ _)); exact BK110.out) hg (Kd.R_away HO_5.out (fun _ hk => hk))); have n1_ := Aside0.mk (hb); have n2_ := Aside0.mk (ho); clear BK110; clear HB; clear HO_5; have BK110 := n0_; have HB := n1_; have HO113 := n2_; clear n0_ n1_ n2_; clear ho hb hg hat))
            go_ret
            exact ⟨_, by first | rfl | (simp [errW_none, errW_some] <;> rfl) | (simp [*, errW_none, errW_some] <;> rfl), by (with_reducible repeat (first | apply Kd.R_alloc | apply Kd.R_drewN | apply Kd.R_drew)); exact Kd.R_mono HO113.out (fun _ hk => trivial), by repeat (first | (with_reducible first | exact HB.out | apply below_alloc | apply pw_below_drewN | apply below_drew1 | refine below_set ?_ GE110.out) | exact HB.out)⟩
          · rw [if_neg c41] at H
            exact absurd H (by simp)

/-! ### bagnallref_rowsChanges: function 50 -/
def bagnallref_rowsChanges.l0 : Nat → List (S69) → List (S69) → Int → Int → Option ((List (S69)) × Int)
  | 0, _, _, _, _ => none
  | k + 1, x6, x13, x14, x15 => if x15 < x14 then (if 0 ≤ x15 then (if x15 < (x13.length : Int) then (if (((rd_T69 x13 x15).f0).size : Int) < 1 then (some (([] : List (S69)), 1)) else (if (((rd_T69 x13 x15).f0).size : Int) > 20 then (some (([] : List (S69)), 1)) else (if (((rd_T69 x13 x15).f1).size : Int) > 20 then (some (([] : List (S69)), 1)) else ((bagnallref_rowsSet.f k x6 ((rd_T69 x13 x15).f0) ((rd_T69 x13 x15).f1)).bind fun t127 => (bagnallref_rowsChanges.l0 k t127 x13 x14 (wrap64 (x15 + 1))))))) else (none)) else (none)) else (if (x6.length : Int) > 40 then (some (([] : List (S69)), 10)) else (some (x6, 0)))
def bagnallref_rowsChanges.f (k : Nat) (l0 : List (S69)) (l1 : List (S69)) : Option ((List (S69)) × Int) := if (l1.length : Int) > 60 then (some (([] : List (S69)), 1)) else (bagnallref_rowsChanges.l0 k l0 l1 (l1.length : Int) 0)
theorem bagnallref_rowsChanges.mono_l : ∀ k, (∀ y0 y1 y2 y3, LeO (bagnallref_rowsChanges.l0 k y0 y1 y2 y3) (bagnallref_rowsChanges.l0 (k + 1) y0 y1 y2 y3))
  | 0 => fun _ _ _ _ r h => by simp [bagnallref_rowsChanges.l0] at h
  | k + 1 => by
    have ih0 := bagnallref_rowsChanges.mono_l k
    · intro y0 y1 y2 y3
      unfold bagnallref_rowsChanges.l0
      repeat' first
      | (with_reducible exact ih0 _ _ _ _)
      | (with_reducible exact bagnallref_rowsSet.mono _ _ _ _)
      | (with_reducible exact LeO.refl _)
      | (with_reducible exact LeO.none _)
      | (with_reducible refine LeO.ite ?_ ?_)
      | (with_reducible refine LeO.bind ?_ (fun _ => ?_))
      | exact ih0 _ _ _ _
      | exact bagnallref_rowsSet.mono _ _ _ _
      | exact LeO.none _
      | refine LeO.ite ?_ ?_
      | refine LeO.bind ?_ (fun _ => ?_)
theorem bagnallref_rowsChanges.mono : ∀ a0 a1 k, LeO (bagnallref_rowsChanges.f k a0 a1) (bagnallref_rowsChanges.f (k + 1) a0 a1) := by
  intro a0 a1 k
  have ih0 := bagnallref_rowsChanges.mono_l k
  unfold bagnallref_rowsChanges.f
  repeat' first
      | (with_reducible exact ih0 _ _ _ _)
      | (with_reducible exact bagnallref_rowsSet.mono _ _ _ _)
      | (with_reducible exact LeO.refl _)
      | (with_reducible exact LeO.none _)
      | (with_reducible refine LeO.ite ?_ ?_)
      | (with_reducible refine LeO.bind ?_ (fun _ => ?_))
      | exact ih0 _ _ _ _
      | exact bagnallref_rowsSet.mono _ _ _ _
      | exact LeO.none _
      | refine LeO.ite ?_ ?_
      | refine LeO.bind ?_ (fun _ => ?_)
set_option maxHeartbeats 8000000 in
set_option maxRecDepth 100000 in
theorem bagnallref_rowsChanges.calls (k : Nat) (P0_ : Nat → Prop) (A0 : Option Addr) (c0 : Nat) (l0 : List (S69)) (A1 : Option Addr) (c1 : Nat) (l1 : List (S69)) (r1 : List (S69)) (r2 : Int) (w : World) (hs0 : Kd.V k69 69 w w.heap.size (fun k_ => P0_ k_) (.slice A0 l0.length c0) l0) (hr1 : Kd.C k69 w A1 l1.length l1) (hc1 : l1.length ≤ c1) (h : bagnallref_rowsChanges.f k l0 l1 = some (r1, r2)) :
    Calls Try.prog 50 #[.slice A0 l0.length c0, .slice A1 l1.length c1] w fun e w' => ∃ v0_ : Value, e = .returned (.tuple #[v0_, .int .i64 r2]) ∧ Kd.V k69 69 w' w.heap.size (fun k_ => (P0_ k_ ∨ w.heap.size ≤ k_)) v0_ r1 ∧ Below w.heap.size w w' := by
  have hu69 := Try.underlying69
  have HO0 := Aside0.mk (show Kd.V k69 69 w w.heap.size (fun k_ => (P0_ k_ ∨ w.heap.size ≤ k_)) (.slice A0 l0.length c0) l0 from Kd.V_mono hs0 (fun k_ hk => .inl hk))
  have HR1 := Aside0.mk hr1
  have HC1 := Aside0.mk hc1
  clear hr1 hc1
  have HB := Aside0.mk (Below.refl w.heap.size w)
  have H : (if (l1.length : Int) > 60 then (some (([] : List (S69)), 1)) else (bagnallref_rowsChanges.l0 k l0 l1 (l1.length : Int) 0)) = some (r1, r2) := h
  clear h
  by_cases c3 : (l1.length : Int) > 60
  · rw [if_pos c3] at H
    have c3b0 : decide (60 < (l1.length : Int)) = true := decide_eq_true c3
    have c3b1 : decide (60 < l1.length) = true := decide_eq_true (by omega)
    clear c3
    simp only [Option.some.injEq, Prod.mk.injEq] at H
    obtain ⟨rfl, rfl⟩ := H
    go_enter Try.func50, Try.ntmps50
    go_wp2
    go_ret2
    exact ⟨_, by first | rfl | (simp [errW_none, errW_some] <;> rfl) | (simp [*, errW_none, errW_some] <;> rfl), (by first | exact Kd.V_nil _ _ _ _ _ | exact Kd.V_mono (Kd.R_V (by first | exact Kd.R_nil _ _ _ _ _ | exact Kd.N_nil _ _ _ _ _ | exact Kd.V_nil _ _ _ _ _ | exact Kd.Q_nil _ _ _ _ _ | exact Kd.S_nil _ _ _ _ _)) (fun k_ hk => by first | exact ⟨(.inr (hk.1)), hk.2⟩ | exact (.inr (hk)))), by repeat (first | (with_reducible first | exact HB.out | apply below_alloc | apply pw_below_drewN | apply below_drew1) | exact HB.out)⟩
  · rw [if_neg c3] at H
    have c3b0 : decide (60 < (l1.length : Int)) = false := decide_eq_false c3
    have c3b1 : decide (60 < l1.length) = false := decide_eq_false (by omega)
    clear c3
    have H' := Aside0.mk H
    clear H
    go_enter Try.func50, Try.ntmps50
    go_wp2
    go_loopg [6, 15] k (fun kq v6 v15 w' => ∃ (x6_1 : List (S69)) (x15_1 : Int), v15 = .int .i64 x15_1 ∧ Aside0 (bagnallref_rowsChanges.l0 kq x6_1 l1 (l1.length : Int) x15_1 = some (r1, r2)) ∧ Aside0 (kq ≤ k) ∧ Aside0 (Kd.V k69 69 w' w.heap.size (fun k_ => (P0_ k_ ∨ w.heap.size ≤ k_)) v6 x6_1) ∧ Aside0 (Below w.heap.size w w'))
    case atStart => exact ⟨(l0), (0), (by first | rfl | (simp; done) | (simp [*]; done)), H', ⟨Nat.le_refl _⟩, ⟨by (with_reducible repeat (first | apply Kd.V_alloc | apply Kd.V_drewN | apply Kd.V_drew)); exact HO0.out⟩, ⟨by repeat (first | (with_reducible first | exact HB.out | apply below_alloc | apply pw_below_drewN | apply below_drew1) | exact HB.out)⟩⟩
    case round =>
      clear H'
      try clear c1
      try clear p2
      try clear c3
      try clear c3b0
      try clear c3b1
      obtain ⟨x6_1, x15_1, rfl, HA, HK1, HO_6, HB⟩ := hrel
      cases gk with
      | zero => exact absurd HA.out (by simp [bagnallref_rowsChanges.l0])
      | succ k1 =>
        have H := HA.out
        clear HA
        simp only [bagnallref_rowsChanges.l0] at H
        by_cases c4 : x15_1 < (l1.length : Int)
        · rw [if_pos c4] at H
          have c4b0 : decide (x15_1 < (l1.length : Int)) = true := decide_eq_true c4
          clear c4
          by_cases c5 : 0 ≤ x15_1
          · rw [if_pos c5] at H
            have c5b0 : decide (0 ≤ x15_1) = true := decide_eq_true c5
            clear c5
            by_cases c6 : x15_1 < (l1.length : Int)
            · rw [if_pos c6] at H
              have c6b0 : decide (x15_1 < (l1.length : Int)) = true := decide_eq_true c6
              clear c6
              by_cases c7 : (((rd_T69 l1 x15_1).f0).size : Int) < 1
              · rw [if_pos c7] at H
                have c7b0 : decide ((((rd_T69 l1 x15_1).f0).size : Int) < 1) = true := decide_eq_true c7
                have c7b1 : decide (((rd_T69 l1 x15_1).f0).size < 1) = true := decide_eq_true (by omega)
                clear c7
                simp only [Option.some.injEq, Prod.mk.injEq] at H
                obtain ⟨rfl, rfl⟩ := H
                have p125 : 0 ≤ (x15_1 : Int) := of_decide_eq_true (by first | (with_reducible assumption) | assumption)
                have q125 : x15_1 < (l1.length : Int) := of_decide_eq_true (by first | (with_reducible assumption) | assumption)
                obtain ⟨ad125, e125, hx125_0, hx125_1⟩ := at_T69 HR1.out x15_1 p125 q125
                cases e125
                replace hx125_0 := (HB.out.cell (World.block_lt_of_cell? w _ hx125_0)).trans hx125_0
                replace hx125_1 := (HB.out.cell (World.block_lt_of_cell? w _ hx125_1)).trans hx125_1
                replace p125 := eq_true p125
                replace q125 := eq_true q125
                go_wp2_with (first | ((with_reducible refine gate_dst (N := 8) rfl ?_); (try (refine gate_guard (by rfl) ?_; dsimp only)); refine box_event ?hg (N := 8) ?hd (cs := #[.string (⟨#[]⟩ : ByteArray), .string (⟨#[]⟩ : ByteArray)]) (t := 69) ?hr ?_; (case hd => rfl); (case hg => rfl); (case hr => first | (go_simp; done) | (go_simp; rfl)); intro gb126 hg w8 hbox hb; have n0_ := Aside0.mk (Kd.V_below (Kd.V_elderB (by (with_reducible repeat (first | apply Kd.V_alloc | apply Kd.V_drewN | apply Kd.V_drew)); exact HO_6.out) gb126 (Nat.le_of_eq hg.symm)) hb); have n1_ := Aside0.mk (below_step (by repeat (first | (with_reducible first | exact HB.out | apply below_alloc | apply pw_below_drewN | apply below_drew1) | exact HB.out)) hb); have n2_ := Aside0.mk (hbox); have n3_ := Aside0.mk ((by rw [hg]; exact (below_size (by repeat (first | (with_reducible first | exact HB.out | apply below_alloc | apply pw_below_drewN | apply below_drew1) | exact HB.out))) : w.heap.size ≤ gb126)); have n4_ := Aside0.mk ((by rw [hg]; exact (below_size (by repeat (first | (with_reducible first | exact HB.out | apply below_alloc | apply pw_below_drewN | apply below_drew1) | exact HB.out))) : w.heap.size ≤ gb126)); clear HO_6; clear HB; have HO_6 := n0_; have HB := n1_; have BK126 := n2_; have GW126 := n3_; have GE126 := n4_; clear n0_ n1_ n2_ n3_ n4_; clear hb hbox hg; have hcz9_0 : w8.cell? ⟨gb126, 0, none⟩ = some (.string (⟨#[]⟩ : ByteArray)) := (blk_cell BK126.out 0).trans rfl; have hcz9_1 : w8.cell? ⟨gb126, 1, none⟩ = some (.string (⟨#[]⟩ : ByteArray)) := (blk_cell BK126.out 1).trans rfl; have hfz9_0 := blk_frozen BK126.out 0; have hfz9_1 := blk_frozen BK126.out 1))
                go_ret2
                exact ⟨_, by first | rfl | (simp [errW_none, errW_some] <;> rfl) | (simp [*, errW_none, errW_some] <;> rfl), (by first | exact Kd.V_nil _ _ _ _ _ | exact Kd.V_mono (Kd.R_V (by first | exact Kd.R_nil _ _ _ _ _ | exact Kd.N_nil _ _ _ _ _ | exact Kd.V_nil _ _ _ _ _ | exact Kd.Q_nil _ _ _ _ _ | exact Kd.S_nil _ _ _ _ _)) (fun k_ hk => by first | exact ⟨(.inr (hk.1)), hk.2⟩ | exact (.inr (hk)))), by repeat (first | (with_reducible first | exact HB.out | apply below_alloc | apply pw_below_drewN | apply below_drew1 | refine below_set ?_ GE126.out) | exact HB.out)⟩
              · rw [if_neg c7] at H
                have c7b0 : decide ((((rd_T69 l1 x15_1).f0).size : Int) < 1) = false := decide_eq_false c7
                have c7b1 : decide (((rd_T69 l1 x15_1).f0).size < 1) = false := decide_eq_false (by omega)
                clear c7
                by_cases c10 : (((rd_T69 l1 x15_1).f0).size : Int) > 20
                · rw [if_pos c10] at H
                  have c10b0 : decide (20 < (((rd_T69 l1 x15_1).f0).size : Int)) = true := decide_eq_true c10
                  have c10b1 : decide (20 < ((rd_T69 l1 x15_1).f0).size) = true := decide_eq_true (by omega)
                  clear c10
                  simp only [Option.some.injEq, Prod.mk.injEq] at H
                  obtain ⟨rfl, rfl⟩ := H
                  have p125 : 0 ≤ (x15_1 : Int) := of_decide_eq_true (by first | (with_reducible assumption) | assumption)
                  have q125 : x15_1 < (l1.length : Int) := of_decide_eq_true (by first | (with_reducible assumption) | assumption)
                  obtain ⟨ad125, e125, hx125_0, hx125_1⟩ := at_T69 HR1.out x15_1 p125 q125
                  cases e125
                  replace hx125_0 := (HB.out.cell (World.block_lt_of_cell? w _ hx125_0)).trans hx125_0
                  replace hx125_1 := (HB.out.cell (World.block_lt_of_cell? w _ hx125_1)).trans hx125_1
                  replace p125 := eq_true p125
                  replace q125 := eq_true q125
                  go_wp2_with (first | ((with_reducible refine gate_dst (N := 8) rfl ?_); (try (refine gate_guard (by rfl) ?_; dsimp only)); refine box_event ?hg (N := 8) ?hd (cs := #[.string (⟨#[]⟩ : ByteArray), .string (⟨#[]⟩ : ByteArray)]) (t := 69) ?hr ?_; (case hd => rfl); (case hg => rfl); (case hr => first | (go_simp; done) | (go_simp; rfl)); intro gb126 hg w11 hbox hb; have n0_ := Aside0.mk (Kd.V_below (Kd.V_elderB (by (with_reducible repeat (first | apply Kd.V_alloc | apply Kd.V_drewN | apply Kd.V_drew)); exact HO_6.out) gb126 (Nat.le_of_eq hg.symm)) hb); have n1_ := Aside0.mk (below_step (by repeat (first | (with_reducible first | exact HB.out | apply below_alloc | apply pw_below_drewN | apply below_drew1) | exact HB.out)) hb); have n2_ := Aside0.mk (hbox); have n3_ := Aside0.mk ((by rw [hg]; exact (below_size (by repeat (first | (with_reducible first | exact HB.out | apply below_alloc | apply pw_below_drewN | apply below_drew1) | exact HB.out))) : w.heap.size ≤ gb126)); have n4_ := Aside0.mk ((by rw [hg]; exact (below_size (by repeat (first | (with_reducible first | exact HB.out | apply below_alloc | apply pw_below_drewN | apply below_drew1) | exact HB.out))) : w.heap.size ≤ gb126)); clear HO_6; clear HB; have HO_6 := n0_; have HB := n1_; have BK126 := n2_; have GW126 := n3_; have GE126 := n4_; clear n0_ n1_ n2_ n3_ n4_; clear hb hbox hg; have hcz12_0 : w11.cell? ⟨gb126, 0, none⟩ = some (.string (⟨#[]⟩ : ByteArray)) := (blk_cell BK126.out 0).trans rfl; have hcz12_1 : w11.cell? ⟨gb126, 1, none⟩ = some (.string (⟨#[]⟩ : ByteArray)) := (blk_cell BK126.out 1).trans rfl; have hfz12_0 := blk_frozen BK126.out 0; have hfz12_1 := blk_frozen BK126.out 1))
                  go_ret2
                  exact ⟨_, by first | rfl | (simp [errW_none, errW_some] <;> rfl) | (simp [*, errW_none, errW_some] <;> rfl), (by first | exact Kd.V_nil _ _ _ _ _ | exact Kd.V_mono (Kd.R_V (by first | exact Kd.R_nil _ _ _ _ _ | exact Kd.N_nil _ _ _ _ _ | exact Kd.V_nil _ _ _ _ _ | exact Kd.Q_nil _ _ _ _ _ | exact Kd.S_nil _ _ _ _ _)) (fun k_ hk => by first | exact ⟨(.inr (hk.1)), hk.2⟩ | exact (.inr (hk)))), by repeat (first | (with_reducible first | exact HB.out | apply below_alloc | apply pw_below_drewN | apply below_drew1 | refine below_set ?_ GE126.out) | exact HB.out)⟩
                · rw [if_neg c10] at H
                  have c10b0 : decide (20 < (((rd_T69 l1 x15_1).f0).size : Int)) = false := decide_eq_false c10
                  have c10b1 : decide (20 < ((rd_T69 l1 x15_1).f0).size) = false := decide_eq_false (by omega)
                  clear c10
                  by_cases c13 : (((rd_T69 l1 x15_1).f1).size : Int) > 20
                  · rw [if_pos c13] at H
                    have c13b0 : decide (20 < (((rd_T69 l1 x15_1).f1).size : Int)) = true := decide_eq_true c13
                    have c13b1 : decide (20 < ((rd_T69 l1 x15_1).f1).size) = true := decide_eq_true (by omega)
                    clear c13
                    simp only [Option.some.injEq, Prod.mk.injEq] at H
                    obtain ⟨rfl, rfl⟩ := H
                    have p125 : 0 ≤ (x15_1 : Int) := of_decide_eq_true (by first | (with_reducible assumption) | assumption)
                    have q125 : x15_1 < (l1.length : Int) := of_decide_eq_true (by first | (with_reducible assumption) | assumption)
                    obtain ⟨ad125, e125, hx125_0, hx125_1⟩ := at_T69 HR1.out x15_1 p125 q125
                    cases e125
                    replace hx125_0 := (HB.out.cell (World.block_lt_of_cell? w _ hx125_0)).trans hx125_0
                    replace hx125_1 := (HB.out.cell (World.block_lt_of_cell? w _ hx125_1)).trans hx125_1
                    replace p125 := eq_true p125
                    replace q125 := eq_true q125
                    go_wp2_with (first | ((with_reducible refine gate_dst (N := 8) rfl ?_); (try (refine gate_guard (by rfl) ?_; dsimp only)); refine box_event ?hg (N := 8) ?hd (cs := #[.string (⟨#[]⟩ : ByteArray), .string (⟨#[]⟩ : ByteArray)]) (t := 69) ?hr ?_; (case hd => rfl); (case hg => rfl); (case hr => first | (go_simp; done) | (go_simp; rfl)); intro gb126 hg w14 hbox hb; have n0_ := Aside0.mk (Kd.V_below (Kd.V_elderB (by (with_reducible repeat (first | apply Kd.V_alloc | apply Kd.V_drewN | apply Kd.V_drew)); exact HO_6.out) gb126 (Nat.le_of_eq hg.symm)) hb); have n1_ := Aside0.mk (below_step (by repeat (first | (with_reducible first | exact HB.out | apply below_alloc | apply pw_below_drewN | apply below_drew1) | exact HB.out)) hb); have n2_ := Aside0.mk (hbox); have n3_ := Aside0.mk ((by rw [hg]; exact (below_size (by repeat (first | (with_reducible first | exact HB.out | apply below_alloc | apply pw_below_drewN | apply below_drew1) | exact HB.out))) : w.heap.size ≤ gb126)); have n4_ := Aside0.mk ((by rw [hg]; exact (below_size (by repeat (first | (with_reducible first | exact HB.out | apply below_alloc | apply pw_below_drewN | apply below_drew1) | exact HB.out))) : w.heap.size ≤ gb126)); clear HO_6; clear HB; have HO_6 := n0_; have HB := n1_; have BK126 := n2_; have GW126 := n3_; have GE126 := n4_; clear n0_ n1_ n2_ n3_ n4_; clear hb hbox hg; have hcz15_0 : w14.cell? ⟨gb126, 0, none⟩ = some (.string (⟨#[]⟩ : ByteArray)) := (blk_cell BK126.out 0).trans rfl; have hcz15_1 : w14.cell? ⟨gb126, 1, none⟩ = some (.string (⟨#[]⟩ : ByteArray)) := (blk_cell BK126.out 1).trans rfl; have hfz15_0 := blk_frozen BK126.out 0; have hfz15_1 := blk_frozen BK126.out 1))
                    go_ret2
                    exact ⟨_, by first | rfl | (simp [errW_none, errW_some] <;> rfl) | (simp [*, errW_none, errW_some] <;> rfl), (by first | exact Kd.V_nil _ _ _ _ _ | exact Kd.V_mono (Kd.R_V (by first | exact Kd.R_nil _ _ _ _ _ | exact Kd.N_nil _ _ _ _ _ | exact Kd.V_nil _ _ _ _ _ | exact Kd.Q_nil _ _ _ _ _ | exact Kd.S_nil _ _ _ _ _)) (fun k_ hk => by first | exact ⟨(.inr (hk.1)), hk.2⟩ | exact (.inr (hk)))), by repeat (first | (with_reducible first | exact HB.out | apply below_alloc | apply pw_below_drewN | apply below_drew1 | refine below_set ?_ GE126.out) | exact HB.out)⟩
                  · rw [if_neg c13] at H
                    have c13b0 : decide (20 < (((rd_T69 l1 x15_1).f1).size : Int)) = false := decide_eq_false c13
                    have c13b1 : decide (20 < ((rd_T69 l1 x15_1).f1).size) = false := decide_eq_false (by omega)
                    clear c13
                    replace H := Option.bind_eq_some_iff.mp H
                    obtain ⟨t127, A160, H⟩ := H
                    replace H : (bagnallref_rowsChanges.l0 k1 t127 l1 (l1.length : Int) (wrap64 (x15_1 + 1))) = some (r1, r2) := H
                    have A16 := Aside0.mk A160
                    clear A160
                    have H' := Aside0.mk H
                    clear H
                    have p125 : 0 ≤ (x15_1 : Int) := of_decide_eq_true (by first | (with_reducible assumption) | assumption)
                    have q125 : x15_1 < (l1.length : Int) := of_decide_eq_true (by first | (with_reducible assumption) | assumption)
                    obtain ⟨ad125, e125, hx125_0, hx125_1⟩ := at_T69 HR1.out x15_1 p125 q125
                    cases e125
                    replace hx125_0 := (HB.out.cell (World.block_lt_of_cell? w _ hx125_0)).trans hx125_0
                    replace hx125_1 := (HB.out.cell (World.block_lt_of_cell? w _ hx125_1)).trans hx125_1
                    replace p125 := eq_true p125
                    replace q125 := eq_true q125
                    go_wp2_with (first | ((with_reducible refine gate_dst (N := 8) rfl ?_); (try (refine gate_guard (by rfl) ?_; dsimp only)); refine box_event ?hg (N := 8) ?hd (cs := #[.string (⟨#[]⟩ : ByteArray), .string (⟨#[]⟩ : ByteArray)]) (t := 69) ?hr ?_; (case hd => rfl); (case hg => rfl); (case hr => first | (go_simp; done) | (go_simp; rfl)); intro gb126 hg w17 hbox hb; have n0_ := Aside0.mk (Kd.V_below (Kd.V_elderB (by (with_reducible repeat (first | apply Kd.V_alloc | apply Kd.V_drewN | apply Kd.V_drew)); exact HO_6.out) gb126 (Nat.le_of_eq hg.symm)) hb); have n1_ := Aside0.mk (below_step (by repeat (first | (with_reducible first | exact HB.out | apply below_alloc | apply pw_below_drewN | apply below_drew1) | exact HB.out)) hb); have n2_ := Aside0.mk (hbox); have n3_ := Aside0.mk ((by rw [hg]; exact (below_size (by repeat (first | (with_reducible first | exact HB.out | apply below_alloc | apply pw_below_drewN | apply below_drew1) | exact HB.out))) : w.heap.size ≤ gb126)); have n4_ := Aside0.mk ((by rw [hg]; exact (below_size (by repeat (first | (with_reducible first | exact HB.out | apply below_alloc | apply pw_below_drewN | apply below_drew1) | exact HB.out))) : w.heap.size ≤ gb126)); clear HO_6; clear HB; have HO_6 := n0_; have HB := n1_; have BK126 := n2_; have GW126 := n3_; have GE126 := n4_; clear n0_ n1_ n2_ n3_ n4_; clear hb hbox hg; have hcz18_0 : w17.cell? ⟨gb126, 0, none⟩ = some (.string (⟨#[]⟩ : ByteArray)) := (blk_cell BK126.out 0).trans rfl; have hcz18_1 : w17.cell? ⟨gb126, 1, none⟩ = some (.string (⟨#[]⟩ : ByteArray)) := (blk_cell BK126.out 1).trans rfl; have hfz18_0 := blk_frozen BK126.out 0; have hfz18_1 := blk_frozen BK126.out 1; obtain ⟨Ao19, co19, eo19⟩ := Kd.V_slice HO_6.out; subst eo19) | ((with_reducible refine gate_callee (f := 60) rfl ?_); refine goesL_ (some 37) rfl rfl Try.func60 (by kernel_rfl) rfl #[.slice Ao19 x6_1.length co19, .agg #[.string ((rd_T69 l1 x15_1).f0), .string ((rd_T69 l1 x15_1).f1)]] rfl (by (try simp only [List.map_toArray, List.map_cons, List.map_nil]); first | done | rfl | (simp only [List.length_drop, List.length_take]; rfl)) ?_; (with_reducible refine (bagnallref_rowsSet.calls k1 _ _ x6_1 ((rd_T69 l1 x15_1).f0) ((rd_T69 l1 x15_1).f1) t127 _ ?side1 ?side2 A16.out).mono ?_); (case side1 => refine (Kd.V_reads' (e := 69) (base := w.heap.size) (ok := fun k_ => ((P0_ k_ ∨ w.heap.size ≤ k_) ∧ k_ ≠ gb126)) (n := x6_1.length) (c := co19) ?_).2.2; exact (by (with_reducible repeat (first | apply Kd.V_alloc | apply Kd.V_drewN | apply Kd.V_drew)); exact (Kd.V_mono (Kd.V_far (p := ⟨gb126, 1, none⟩) (Kd.V_far (p := ⟨gb126, 0, none⟩) (Kd.V_mono HO_6.out (fun k_ hk => (⟨hk, hk.2⟩ : _ ∧ k_ ≠ gb126))) (fun _ hk => hk.2) (.string ((rd_T69 l1 x15_1).f0))) (fun _ hk => hk.2) (.string ((rd_T69 l1 x15_1).f1))) (fun _ h_ => h_.1)))); (case side2 => exact (Kd.V_reads' HO_6.out).2.1); rintro e w20 ⟨v128, rfl, ho0, hb⟩; refine ⟨_, rfl, ?_⟩; have n0_ := Aside0.mk (Kd.V_elder' (by (with_reducible repeat (first | apply Kd.V_alloc | apply Kd.V_drewN | apply Kd.V_drew)); exact (Kd.V_mono (Kd.V_far (p := ⟨gb126, 1, none⟩) (Kd.V_far (p := ⟨gb126, 0, none⟩) (Kd.V_mono HO_6.out (fun k_ hk => (⟨hk, hk.2⟩ : _ ∧ k_ ≠ gb126))) (fun _ hk => hk.2) (.string ((rd_T69 l1 x15_1).f0))) (fun _ hk => hk.2) (.string ((rd_T69 l1 x15_1).f1))) (fun _ h_ => h_.1))) (Kd.R_base ho0) hb); have n1_ := Aside0.mk (Kd.R_lower (Kd.R_newB (Kd.R_newM (M := fun k_ => (w.heap.size ≤ k_)) ho0 (below_size (by repeat (first | (with_reducible first | exact HB.out | apply below_alloc | apply pw_below_drewN | apply below_drew1 | refine below_set ?_ GE126.out) | exact HB.out))) (fun k_ h_ => h_)) (g := gb126) (o := .cells #[.string ((rd_T69 l1 x15_1).f0), .string ((rd_T69 l1 x15_1).f1)] 69 (0, 0)) (by (with_reducible repeat (first | refine blk_drewN ?_ _ | refine blk_drew ?_ | refine blk_alloc ?_ _)); refine blk_put (cs := #[.string ((rd_T69 l1 x15_1).f0), .string (⟨#[]⟩ : ByteArray)]) ?_ 1 _ rfl; (with_reducible repeat (first | refine blk_drewN ?_ _ | refine blk_drew ?_ | refine blk_alloc ?_ _)); refine blk_put (cs := #[.string (⟨#[]⟩ : ByteArray), .string (⟨#[]⟩ : ByteArray)]) ?_ 0 _ rfl; (with_reducible repeat (first | refine blk_drewN ?_ _ | refine blk_drew ?_ | refine blk_alloc ?_ _)); exact BK126.out)) (below_size (by repeat (first | (with_reducible first | exact HB.out | apply below_alloc | apply pw_below_drewN | apply below_drew1 | refine below_set ?_ GE126.out) | exact HB.out)))); have n2_ := Aside0.mk (blk_below (g := gb126) (o := .cells #[.string ((rd_T69 l1 x15_1).f0), .string ((rd_T69 l1 x15_1).f1)] 69 (0, 0)) (by (with_reducible repeat (first | refine blk_drewN ?_ _ | refine blk_drew ?_ | refine blk_alloc ?_ _)); refine blk_put (cs := #[.string ((rd_T69 l1 x15_1).f0), .string (⟨#[]⟩ : ByteArray)]) ?_ 1 _ rfl; (with_reducible repeat (first | refine blk_drewN ?_ _ | refine blk_drew ?_ | refine blk_alloc ?_ _)); refine blk_put (cs := #[.string (⟨#[]⟩ : ByteArray), .string (⟨#[]⟩ : ByteArray)]) ?_ 0 _ rfl; (with_reducible repeat (first | refine blk_drewN ?_ _ | refine blk_drew ?_ | refine blk_alloc ?_ _)); exact BK126.out) hb); have n3_ := Aside0.mk (below_step (by repeat (first | (with_reducible first | exact HB.out | apply below_alloc | apply pw_below_drewN | apply below_drew1 | refine below_set ?_ GE126.out) | exact HB.out)) hb); clear HO_6; clear BK126; clear HB; have HO_6 := n0_; have HO129 := n1_; have BK126 := n2_; have HB := n3_; clear n0_ n1_ n2_ n3_; (try clear hb); (try clear hb2); (try clear hk); (try clear hi); (try clear ho0)))
                    go_roundg k1
                    case measure => have := HK1.out; omega
                    case rel => exact ⟨(t127), (wrap64 (x15_1 + 1)), (by first | rfl | (simp; done) | (simp [*]; done)), H', ⟨by have := HK1.out; omega⟩, ⟨Kd.V_mono (Kd.R_V (by (with_reducible repeat (first | apply Kd.R_alloc | apply Kd.R_drewN | apply Kd.R_drew)); exact Kd.R_mono HO129.out (fun _ hk => hk.1.1))) (fun k_ hk => by first | exact ⟨(.inr (hk.1)), hk.2⟩ | exact (.inr (hk)))⟩, ⟨by repeat (first | (with_reducible first | exact HB.out | apply below_alloc | apply pw_below_drewN | apply below_drew1 | refine below_set ?_ GE126.out) | exact HB.out)⟩⟩
            · rw [if_neg c6] at H
              exact absurd H (by simp)
          · rw [if_neg c5] at H
            exact absurd H (by simp)
        · rw [if_neg c4] at H
          have c4b0 : decide (x15_1 < (l1.length : Int)) = false := decide_eq_false c4
          clear c4
          by_cases c21 : (x6_1.length : Int) > 40
          · rw [if_pos c21] at H
            have c21b0 : decide (40 < (x6_1.length : Int)) = true := decide_eq_true c21
            have c21b1 : decide (40 < x6_1.length) = true := decide_eq_true (by omega)
            clear c21
            simp only [Option.some.injEq, Prod.mk.injEq] at H
            obtain ⟨rfl, rfl⟩ := H
            obtain ⟨Ao22, co22, eo22⟩ := Kd.V_slice HO_6.out
            subst eo22
            go_wp2
            go_ret2
            exact ⟨_, by first | rfl | (simp [errW_none, errW_some] <;> rfl) | (simp [*, errW_none, errW_some] <;> rfl), (by first | exact Kd.V_nil _ _ _ _ _ | exact Kd.V_mono (Kd.R_V (by first | exact Kd.R_nil _ _ _ _ _ | exact Kd.N_nil _ _ _ _ _ | exact Kd.V_nil _ _ _ _ _ | exact Kd.Q_nil _ _ _ _ _ | exact Kd.S_nil _ _ _ _ _)) (fun k_ hk => by first | exact ⟨(.inr (hk.1)), hk.2⟩ | exact (.inr (hk)))), by repeat (first | (with_reducible first | exact HB.out | apply below_alloc | apply pw_below_drewN | apply below_drew1) | exact HB.out)⟩
          · rw [if_neg c21] at H
            have c21b0 : decide (40 < (x6_1.length : Int)) = false := decide_eq_false c21
            have c21b1 : decide (40 < x6_1.length) = false := decide_eq_false (by omega)
            clear c21
            simp only [Option.some.injEq, Prod.mk.injEq] at H
            obtain ⟨rfl, rfl⟩ := H
            obtain ⟨Ao23, co23, eo23⟩ := Kd.V_slice HO_6.out
            subst eo23
            go_wp2
            go_ret2
            exact ⟨_, by first | rfl | (simp [errW_none, errW_some] <;> rfl) | (simp [*, errW_none, errW_some] <;> rfl), by (with_reducible repeat (first | apply Kd.V_alloc | apply Kd.V_drewN | apply Kd.V_drew)); exact HO_6.out, by repeat (first | (with_reducible first | exact HB.out | apply below_alloc | apply pw_below_drewN | apply below_drew1) | exact HB.out)⟩

/-! ### bagnallref_RowsSet: function 26 -/
def bagnallref_RowsSet.f (k : Nat) (l0 : List (S69)) (l1 : List (S69)) : Option ((List (S69)) × Int) := (bagnallref_RowsFault.f k l0).bind fun t130 => (if t130 = 0 then ((bagnallref_rowsChanges.f k l0 l1).bind fun bt131 => (some (bt131.1, bt131.2))) else (some (([] : List (S69)), t130)))
theorem bagnallref_RowsSet.mono : ∀ a0 a1 k, LeO (bagnallref_RowsSet.f k a0 a1) (bagnallref_RowsSet.f (k + 1) a0 a1) := by
  intro a0 a1 k
  unfold bagnallref_RowsSet.f
  repeat' first
      | (with_reducible exact bagnallref_RowsFault.mono _ _)
      | (with_reducible exact bagnallref_rowsChanges.mono _ _ _)
      | (with_reducible exact LeO.refl _)
      | (with_reducible exact LeO.none _)
      | (with_reducible refine LeO.ite ?_ ?_)
      | (with_reducible refine LeO.bind ?_ (fun _ => ?_))
      | exact bagnallref_RowsFault.mono _ _
      | exact bagnallref_rowsChanges.mono _ _ _
      | exact LeO.none _
      | refine LeO.ite ?_ ?_
      | refine LeO.bind ?_ (fun _ => ?_)
set_option maxHeartbeats 8000000 in
set_option maxRecDepth 100000 in
theorem bagnallref_RowsSet.calls (k : Nat) (P0_ : Nat → Prop) (A0 : Option Addr) (c0 : Nat) (l0 : List (S69)) (A1 : Option Addr) (c1 : Nat) (l1 : List (S69)) (r1 : List (S69)) (r2 : Int) (w : World) (hs0 : Kd.V k69 69 w w.heap.size (fun k_ => P0_ k_) (.slice A0 l0.length c0) l0) (hr1 : Kd.C k69 w A1 l1.length l1) (hc1 : l1.length ≤ c1) (h : bagnallref_RowsSet.f k l0 l1 = some (r1, r2)) :
    Calls Try.prog 26 #[.slice A0 l0.length c0, .slice A1 l1.length c1] w fun e w' => ∃ v0_ : Value, e = .returned (.tuple #[v0_, .int .i64 r2]) ∧ Kd.V k69 69 w' w.heap.size (fun k_ => (P0_ k_ ∨ w.heap.size ≤ k_)) v0_ r1 ∧ Below w.heap.size w w' := by
  have HO0 := Aside0.mk (show Kd.V k69 69 w w.heap.size (fun k_ => (P0_ k_ ∨ w.heap.size ≤ k_)) (.slice A0 l0.length c0) l0 from Kd.V_mono hs0 (fun k_ hk => .inl hk))
  have HR1 := Aside0.mk hr1
  have HC1 := Aside0.mk hc1
  clear hr1 hc1
  have HB := Aside0.mk (Below.refl w.heap.size w)
  have H : ((bagnallref_RowsFault.f k l0).bind fun t130 => (if t130 = 0 then ((bagnallref_rowsChanges.f k l0 l1).bind fun bt131 => (some (bt131.1, bt131.2))) else (some (([] : List (S69)), t130)))) = some (r1, r2) := h
  clear h
  replace H := Option.bind_eq_some_iff.mp H
  obtain ⟨t130, A30, H⟩ := H
  replace H : (if t130 = 0 then ((bagnallref_rowsChanges.f k l0 l1).bind fun bt131 => (some (bt131.1, bt131.2))) else (some (([] : List (S69)), t130))) = some (r1, r2) := H
  have A3 := Aside0.mk A30
  clear A30
  by_cases c4 : t130 = 0
  · rw [if_pos c4] at H
    have c4b0 : (t130 == 0) = true := beq_iff_eq.mpr c4
    have c4b1 : (t130 != 0) = false := bne_eq_false_iff_eq.mpr c4
    clear c4
    replace H := Option.bind_eq_some_iff.mp H
    obtain ⟨⟨t131, t134⟩, A50, H⟩ := H
    replace H : (some (t131, t134)) = some (r1, r2) := H
    have A5 := Aside0.mk A50
    clear A50
    simp only [Option.some.injEq, Prod.mk.injEq] at H
    obtain ⟨rfl, rfl⟩ := H
    go_enter Try.func26, Try.ntmps26
    go_wp2_with (first | ((with_reducible refine gate_callee (f := 19) rfl ?_); refine goesL_ (some 8) rfl rfl Try.func19 (by kernel_rfl) rfl #[.slice A0 l0.length c0] rfl (by (try simp only [List.map_toArray, List.map_cons, List.map_nil]); first | done | rfl | (simp only [List.length_drop, List.length_take]; rfl)) ?_; (with_reducible refine (bagnallref_RowsFault.calls k _ _ l0 t130 _ ?side1 ?side2 A3.out).mono ?_); (case side1 => repeat (first | exact (Kd.V_reads' HO0.out).2.2 | (with_reducible refine Kd.C_alloc ?_ _) | (with_reducible refine Kd.C_drewN ?_ _) | (with_reducible refine Kd.C_drew ?_))); (case side2 => exact (Kd.V_reads' HO0.out).2.1); rintro e w6 ⟨rfl, hb⟩; refine ⟨_, rfl, ?_⟩; have n0_ := Aside0.mk (Kd.V_below (by (with_reducible repeat (first | apply Kd.V_alloc | apply Kd.V_drewN | apply Kd.V_drew)); exact HO0.out) hb); have n1_ := Aside0.mk (below_step (by repeat (first | (with_reducible first | exact HB.out | apply below_alloc | apply pw_below_drewN | apply below_drew1) | exact HB.out)) hb); clear HO0; clear HB; have HO0 := n0_; have HB := n1_; clear n0_ n1_; (try clear hb); (try clear hb2); (try clear hk); (try clear hi)) | ((with_reducible refine gate_callee (f := 50) rfl ?_); refine goesL_ (some 14) rfl rfl Try.func50 (by kernel_rfl) rfl #[.slice A0 l0.length c0, .slice A1 l1.length c1] rfl (by (try simp only [List.map_toArray, List.map_cons, List.map_nil]); first | done | rfl | (simp only [List.length_drop, List.length_take]; rfl)) ?_; (with_reducible refine (bagnallref_rowsChanges.calls k (fun k_ => (P0_ k_ ∨ w.heap.size ≤ k_)) _ _ l0 _ _ l1 t131 t134 _ ?side1 ?side2 ?side3 A5.out).mono ?_); (case side1 => exact HO0.out); (case side2 => repeat (first | exact (Kd.C_below HR1.out HB.out) | (with_reducible refine Kd.C_alloc ?_ _) | (with_reducible refine Kd.C_drewN ?_ _) | (with_reducible refine Kd.C_drew ?_))); (case side3 => exact HC1.out); rintro e w7 ⟨v132, rfl, ho0, hb⟩; refine ⟨_, rfl, ?_⟩; have n0_ := Aside0.mk (Kd.V_below (by (with_reducible repeat (first | apply Kd.V_alloc | apply Kd.V_drewN | apply Kd.V_drew)); exact HO0.out) hb); have n1_ := Aside0.mk (Kd.V_lower (Kd.V_mono (ok' := fun k_ => (P0_ k_ ∨ w.heap.size ≤ k_)) ho0 (fun k_ hk_ => Or.elim hk_ (fun hs_ => hs_) (fun hn_ => (.inr (Nat.le_trans (below_size (by repeat (first | (with_reducible first | exact HB.out | apply below_alloc | apply pw_below_drewN | apply below_drew1) | exact HB.out))) hn_))))) (below_size (by repeat (first | (with_reducible first | exact HB.out | apply below_alloc | apply pw_below_drewN | apply below_drew1) | exact HB.out)))); have n2_ := Aside0.mk (below_step (by repeat (first | (with_reducible first | exact HB.out | apply below_alloc | apply pw_below_drewN | apply below_drew1) | exact HB.out)) hb); clear HO0; clear HB; have HO0 := n0_; have HO133 := n1_; have HB := n2_; clear n0_ n1_ n2_; (try clear hb); (try clear hb2); (try clear hk); (try clear hi); (try clear ho0)))
    go_ret2
    exact ⟨_, by first | rfl | (simp [errW_none, errW_some] <;> rfl) | (simp [*, errW_none, errW_some] <;> rfl), by (with_reducible repeat (first | apply Kd.V_alloc | apply Kd.V_drewN | apply Kd.V_drew)); exact HO133.out, by repeat (first | (with_reducible first | exact HB.out | apply below_alloc | apply pw_below_drewN | apply below_drew1) | exact HB.out)⟩
  · rw [if_neg c4] at H
    have c4b0 : (t130 == 0) = false := beq_eq_false_iff_ne.mpr c4
    have c4b1 : (t130 != 0) = true := bne_iff_ne.mpr c4
    simp only [Option.some.injEq, Prod.mk.injEq] at H
    obtain ⟨rfl, rfl⟩ := H
    go_enter Try.func26, Try.ntmps26
    go_wp2_with (first | ((with_reducible refine gate_callee (f := 19) rfl ?_); refine goesL_ (some 8) rfl rfl Try.func19 (by kernel_rfl) rfl #[.slice A0 l0.length c0] rfl (by (try simp only [List.map_toArray, List.map_cons, List.map_nil]); first | done | rfl | (simp only [List.length_drop, List.length_take]; rfl)) ?_; (with_reducible refine (bagnallref_RowsFault.calls k _ _ l0 t130 _ ?side1 ?side2 A3.out).mono ?_); (case side1 => repeat (first | exact (Kd.V_reads' HO0.out).2.2 | (with_reducible refine Kd.C_alloc ?_ _) | (with_reducible refine Kd.C_drewN ?_ _) | (with_reducible refine Kd.C_drew ?_))); (case side2 => exact (Kd.V_reads' HO0.out).2.1); rintro e w8 ⟨rfl, hb⟩; refine ⟨_, rfl, ?_⟩; have n0_ := Aside0.mk (Kd.V_below (by (with_reducible repeat (first | apply Kd.V_alloc | apply Kd.V_drewN | apply Kd.V_drew)); exact HO0.out) hb); have n1_ := Aside0.mk (below_step (by repeat (first | (with_reducible first | exact HB.out | apply below_alloc | apply pw_below_drewN | apply below_drew1) | exact HB.out)) hb); clear HO0; clear HB; have HO0 := n0_; have HB := n1_; clear n0_ n1_; (try clear hb); (try clear hb2); (try clear hk); (try clear hi)))
    go_ret2
    exact ⟨_, by first | rfl | (simp [errW_none, errW_some] <;> rfl) | (simp [*, errW_none, errW_some] <;> rfl), (by first | exact Kd.V_nil _ _ _ _ _ | exact Kd.V_mono (Kd.R_V (by first | exact Kd.R_nil _ _ _ _ _ | exact Kd.N_nil _ _ _ _ _ | exact Kd.V_nil _ _ _ _ _ | exact Kd.Q_nil _ _ _ _ _ | exact Kd.S_nil _ _ _ _ _)) (fun k_ hk => by first | exact ⟨(.inr (hk.1)), hk.2⟩ | exact (.inr (hk)))), by repeat (first | (with_reducible first | exact HB.out | apply below_alloc | apply pw_below_drewN | apply below_drew1) | exact HB.out)⟩

/-! ### bagnalllaw_sameRows: function 24 -/
def bagnalllaw_sameRows.l0 : Nat → List (S69) → List (S69) → Int → Option (Bool)
  | 0, _, _, _ => none
  | k + 1, x0, x1, x5 => if x5 < (x0.length : Int) then (if 0 ≤ x5 then (if x5 < (x1.length : Int) then (if (!((((rd_T69 x0 x5).f0).toList) == (((rd_T69 x1 x5).f0).toList)) || (!((((rd_T69 x0 x5).f1).toList) == (((rd_T69 x1 x5).f1).toList)))) = true then (some false) else (bagnalllaw_sameRows.l0 k x0 x1 (wrap64 (x5 + 1)))) else (none)) else (none)) else (some true)
def bagnalllaw_sameRows.f (k : Nat) (l0 : List (S69)) (l1 : List (S69)) : Option (Bool) := if (l0.length : Int) = (l1.length : Int) then (bagnalllaw_sameRows.l0 k l0 l1 0) else (some false)
theorem bagnalllaw_sameRows.mono_l : ∀ k, (∀ y0 y1 y2, LeO (bagnalllaw_sameRows.l0 k y0 y1 y2) (bagnalllaw_sameRows.l0 (k + 1) y0 y1 y2))
  | 0 => fun _ _ _ r h => by simp [bagnalllaw_sameRows.l0] at h
  | k + 1 => by
    have ih0 := bagnalllaw_sameRows.mono_l k
    · intro y0 y1 y2
      unfold bagnalllaw_sameRows.l0
      repeat' first
      | (with_reducible exact ih0 _ _ _)
      | (with_reducible exact LeO.refl _)
      | (with_reducible exact LeO.none _)
      | (with_reducible refine LeO.ite ?_ ?_)
      | (with_reducible refine LeO.bind ?_ (fun _ => ?_))
      | exact ih0 _ _ _
      | exact LeO.none _
      | refine LeO.ite ?_ ?_
      | refine LeO.bind ?_ (fun _ => ?_)
theorem bagnalllaw_sameRows.mono : ∀ a0 a1 k, LeO (bagnalllaw_sameRows.f k a0 a1) (bagnalllaw_sameRows.f (k + 1) a0 a1) := by
  intro a0 a1 k
  have ih0 := bagnalllaw_sameRows.mono_l k
  unfold bagnalllaw_sameRows.f
  repeat' first
      | (with_reducible exact ih0 _ _ _)
      | (with_reducible exact LeO.refl _)
      | (with_reducible exact LeO.none _)
      | (with_reducible refine LeO.ite ?_ ?_)
      | (with_reducible refine LeO.bind ?_ (fun _ => ?_))
      | exact ih0 _ _ _
      | exact LeO.none _
      | refine LeO.ite ?_ ?_
      | refine LeO.bind ?_ (fun _ => ?_)
set_option maxHeartbeats 8000000 in
set_option maxRecDepth 100000 in
theorem bagnalllaw_sameRows.calls (k : Nat) (A0 : Option Addr) (c0 : Nat) (l0 : List (S69)) (A1 : Option Addr) (c1 : Nat) (l1 : List (S69)) (r : Bool) (w : World) (hr0 : Kd.C k69 w A0 l0.length l0) (hc0 : l0.length ≤ c0) (hr1 : Kd.C k69 w A1 l1.length l1) (hc1 : l1.length ≤ c1) (h : bagnalllaw_sameRows.f k l0 l1 = some r) :
    Calls Try.prog 24 #[.slice A0 l0.length c0, .slice A1 l1.length c1] w fun e w' => e = .returned (.bool r) ∧ Drawn0 w w' := by
  have hu69 := Try.underlying69
  have HR0 := Aside0.mk hr0
  have HC0 := Aside0.mk hc0
  clear hr0 hc0
  have HR1 := Aside0.mk hr1
  have HC1 := Aside0.mk hc1
  clear hr1 hc1
  have H : (if (l0.length : Int) = (l1.length : Int) then (bagnalllaw_sameRows.l0 k l0 l1 0) else (some false)) = some r := h
  clear h
  by_cases c3 : (l0.length : Int) = (l1.length : Int)
  · rw [if_pos c3] at H
    have c3b0 : ((l0.length : Int) == (l1.length : Int)) = true := beq_iff_eq.mpr c3
    have c3b1 : ((l0.length : Int) != (l1.length : Int)) = false := bne_eq_false_iff_eq.mpr c3
    have c3b2 : (l0.length == l1.length) = true := by first | simpa using c3 | (simp at c3 ⊢; omega)
    clear c3
    have H' := Aside0.mk H
    clear H
    go_enter Try.func24, Try.ntmps24
    go_wp2
    repeat (go_quiet (fail); try go_wp2)
    go_loopg [5] k (fun kq v5 w' => ∃ (x5_1 : Int), v5 = .int .i64 x5_1 ∧ Aside0 (bagnalllaw_sameRows.l0 kq l0 l1 x5_1 = some r) ∧ Aside0 (kq ≤ k) ∧ Drawn0 w w')
    case atStart => exact ⟨(0), (by first | rfl | (simp; done) | (simp [*]; done)), H', ⟨Nat.le_refl _⟩, by repeat (first | exact Drawn0.refl _ | apply Drawn0.step)⟩
    case round =>
      clear H'
      try clear c1
      try clear c2
      try clear p2
      try clear c3
      try clear c3b0
      try clear c3b1
      try clear c3b2
      obtain ⟨x5_1, rfl, HA, HK1, ⟨m1, rfl⟩⟩ := hrel
      cases gk with
      | zero => exact absurd HA.out (by simp [bagnalllaw_sameRows.l0])
      | succ k1 =>
        have H := HA.out
        clear HA
        simp only [bagnalllaw_sameRows.l0] at H
        by_cases c4 : x5_1 < (l0.length : Int)
        · rw [if_pos c4] at H
          have c4b0 : decide (x5_1 < (l0.length : Int)) = true := decide_eq_true c4
          clear c4
          by_cases c5 : 0 ≤ x5_1
          · rw [if_pos c5] at H
            have c5b0 : decide (0 ≤ x5_1) = true := decide_eq_true c5
            clear c5
            by_cases c6 : x5_1 < (l1.length : Int)
            · rw [if_pos c6] at H
              have c6b0 : decide (x5_1 < (l1.length : Int)) = true := decide_eq_true c6
              clear c6
              by_cases c7 : (!((((rd_T69 l0 x5_1).f0).toList) == (((rd_T69 l1 x5_1).f0).toList)) || (!((((rd_T69 l0 x5_1).f1).toList) == (((rd_T69 l1 x5_1).f1).toList)))) = true
              · rw [if_pos c7] at H
                have c7b0 : (!((((rd_T69 l0 x5_1).f0).toList) == (((rd_T69 l1 x5_1).f0).toList)) || (!((((rd_T69 l0 x5_1).f1).toList) == (((rd_T69 l1 x5_1).f1).toList)))) = true := c7
                clear c7
                obtain rfl := Option.some.inj H
                have p135 : 0 ≤ (x5_1 : Int) := of_decide_eq_true (by first | (with_reducible assumption) | assumption)
                have q135 : x5_1 < (l0.length : Int) := of_decide_eq_true (by first | (with_reducible assumption) | assumption)
                obtain ⟨ad135, e135, hx135_0, hx135_1⟩ := at_T69 HR0.out x5_1 p135 q135
                cases e135
                replace p135 := eq_true p135
                replace q135 := eq_true q135
                have p136 : 0 ≤ (x5_1 : Int) := of_decide_eq_true (by first | (with_reducible assumption) | assumption)
                have q136 : x5_1 < (l1.length : Int) := of_decide_eq_true (by first | (with_reducible assumption) | assumption)
                obtain ⟨ad136, e136, hx136_0, hx136_1⟩ := at_T69 HR1.out x5_1 p136 q136
                cases e136
                replace p136 := eq_true p136
                replace q136 := eq_true q136
                go_wp2
                repeat (go_quiet (fail); try go_wp2)
                go_ret
                exact ⟨by first | rfl | (simp; done) | (simp [*]; done), by repeat (first | exact Drawn0.refl _ | apply Drawn0.step)⟩
              · rw [if_neg c7] at H
                have c7b0 : (!((((rd_T69 l0 x5_1).f0).toList) == (((rd_T69 l1 x5_1).f0).toList)) || (!((((rd_T69 l0 x5_1).f1).toList) == (((rd_T69 l1 x5_1).f1).toList)))) = false := by simpa using c7
                clear c7
                have H' := Aside0.mk H
                clear H
                have p135 : 0 ≤ (x5_1 : Int) := of_decide_eq_true (by first | (with_reducible assumption) | assumption)
                have q135 : x5_1 < (l0.length : Int) := of_decide_eq_true (by first | (with_reducible assumption) | assumption)
                obtain ⟨ad135, e135, hx135_0, hx135_1⟩ := at_T69 HR0.out x5_1 p135 q135
                cases e135
                replace p135 := eq_true p135
                replace q135 := eq_true q135
                have p136 : 0 ≤ (x5_1 : Int) := of_decide_eq_true (by first | (with_reducible assumption) | assumption)
                have q136 : x5_1 < (l1.length : Int) := of_decide_eq_true (by first | (with_reducible assumption) | assumption)
                obtain ⟨ad136, e136, hx136_0, hx136_1⟩ := at_T69 HR1.out x5_1 p136 q136
                cases e136
                replace p136 := eq_true p136
                replace q136 := eq_true q136
                go_wp2
                repeat (go_quiet (fail); try go_wp2)
                go_roundg k1
                case measure => have := HK1.out; omega
                case rel => exact ⟨(wrap64 (x5_1 + 1)), (by first | rfl | (simp; done) | (simp [*]; done)), H', ⟨by have := HK1.out; omega⟩, by repeat (first | exact Drawn0.refl _ | apply Drawn0.step)⟩
            · rw [if_neg c6] at H
              exact absurd H (by simp)
          · rw [if_neg c5] at H
            exact absurd H (by simp)
        · rw [if_neg c4] at H
          have c4b0 : decide (x5_1 < (l0.length : Int)) = false := decide_eq_false c4
          clear c4
          obtain rfl := Option.some.inj H
          go_wp2
          repeat (go_quiet (fail); try go_wp2)
          go_ret
          exact ⟨by first | rfl | (simp; done) | (simp [*]; done), by repeat (first | exact Drawn0.refl _ | apply Drawn0.step)⟩
  · rw [if_neg c3] at H
    have c3b0 : ((l0.length : Int) == (l1.length : Int)) = false := beq_eq_false_iff_ne.mpr c3
    have c3b1 : ((l0.length : Int) != (l1.length : Int)) = true := bne_iff_ne.mpr c3
    have c3b2 : (l0.length == l1.length) = false := by first | simpa using c3 | (simp at c3 ⊢; omega)
    obtain rfl := Option.some.inj H
    go_enter Try.func24, Try.ntmps24
    go_wp2
    repeat (go_quiet (fail); try go_wp2)
    go_ret
    exact ⟨by first | rfl | (simp; done) | (simp [*]; done), by repeat (first | exact Drawn0.refl _ | apply Drawn0.step)⟩

end Go.Proofs.Ytnjidfgjldkkcaa.Q
/- Plain laws of the text that stands behind all with a head; of a piece of a table. -/
namespace Go.Proofs.Ytnjidfgjldkkcaa.Plain
open Go.RowKit Go.Proofs.Ytnjidfgjldkkcaa.Q Go.Proofs.YtnjidfgjldkkcaaW.PrintWords

/-- The text behind all with this head; none: no such. -/
def nx : List UInt8 → List UInt8
  | [] => []
  | a :: t => if nx t = [] then (if a = 255 then [] else [a + 1]) else a :: nx t
theorem nx_snoc255 : ∀ l : List UInt8, nx (l ++ [255]) = nx l
  | [] => rfl
  | b :: l => by
    have := nx_snoc255 l
    simp only [List.cons_append, nx, this]
theorem nx_snoc {a : UInt8} (h : a ≠ 255) : ∀ l : List UInt8, nx (l ++ [a]) = l ++ [a + 1]
  | [] => by simp [nx, h]
  | b :: l => by
    have := nx_snoc h l
    simp [nx, this]
theorem up_lt {a : UInt8} (h : a ≠ 255) : (a + 1).toNat = a.toNat + 1 := by
  have h1 : a.toNat < 256 := a.toNat_lt
  have h2 : a.toNat ≠ 255 := fun e => h (UInt8.toNat_inj.1 e)
  rw [UInt8.toNat_add]
  have : (1 : UInt8).toNat = 1 := rfl
  rw [this]; omega
theorem lt_dec {a b : UInt8} : (a < b) = (a.toNat < b.toNat) := propext UInt8.lt_iff_toNat_lt
theorem eq_dec {a b : UInt8} : (a = b) = (a.toNat = b.toNat) := propext UInt8.toNat_inj.symm
/-- Who has the head: he is not ahead of it, and he is ahead of what follows all. -/
theorem has_head : ∀ h k : List UInt8, (k.take h.length = h) ↔ (Op.bytesLess k h = false ∧ (nx h = [] ∨ Op.bytesLess k (nx h) = true))
  | [], k => by cases k <;> simp [Op.bytesLess, nx]
  | a :: t, [] => by simp [Op.bytesLess]
  | a :: t, b :: u => by
    have ih := has_head t u
    simp only [List.length_cons, List.take_succ_cons, List.cons.injEq, ih]
    by_cases hab : b = a
    · subst hab
      have hi : ¬ b < b := by rw [lt_dec]; omega
      by_cases hn : nx t = []
      · by_cases h255 : b = 255
        · simp [Op.bytesLess, nx, hn, h255]
        · have : b < b + 1 := by rw [lt_dec, up_lt h255]; omega
          simp [Op.bytesLess, nx, hn, h255, this]
      · simp [Op.bytesLess, nx, hn]
    · by_cases hlt : b < a
      · simp [Op.bytesLess, hab, hlt]
      · have hlt' : ¬ b.toNat < a.toNat := by rw [← lt_dec]; exact hlt
        have hab' : ¬ b.toNat = a.toNat := by rw [← eq_dec]; exact hab
        by_cases hn : nx t = []
        · by_cases h255 : a = 255
          · have hb := b.toNat_lt
            have : a.toNat = 255 := by rw [h255]; rfl
            omega
          · have h3 : ¬ b < a + 1 := by rw [lt_dec, up_lt h255]; omega
            simp [Op.bytesLess, nx, hn, h255, hab, h3]
        · simp [Op.bytesLess, nx, hn, hab, hlt]
/-- Who is ahead of the head is ahead of what follows all. -/
theorem less_nx : ∀ h k : List UInt8, Op.bytesLess k h = true → nx h = [] ∨ Op.bytesLess k (nx h) = true
  | [], k, h => by cases k <;> simp [Op.bytesLess] at h
  | a :: t, [], _ => by
    cases h : nx (a :: t)
    · exact .inl rfl
    · right; rfl
  | a :: t, b :: u, h => by
    have ih := less_nx t u
    simp only [Op.bytesLess, Bool.or_eq_true, Bool.and_eq_true, decide_eq_true_eq, beq_iff_eq] at h
    by_cases hn : nx t = []
    · by_cases h255 : a = 255
      · left; simp [nx, hn, h255]
      · right
        have : b < a + 1 := by
          rw [lt_dec, up_lt h255]
          rcases h with h | ⟨rfl, _⟩
          · rw [lt_dec] at h; omega
          · omega
        simp [nx, hn, h255, Op.bytesLess, this]
    · right
      rcases h with h | ⟨rfl, h⟩
      · simp [nx, hn, Op.bytesLess, h]
      · rcases ih h with h2 | h2
        · exact absurd h2 hn
        · simp [nx, hn, Op.bytesLess, h2]

theorem toList_str (xs : List Int) : (strOfNums xs).toList = xs.map fun n => UInt8.ofNat n.toNat := by
  rw [Go.ByteArray.toList_eq]; rfl
theorem len_toList (s : ByteArray) : s.toList.length = s.size := by
  rw [Go.ByteArray.toList_eq, Array.length_toList]; rfl
theorem bt_toList {s : ByteArray} {i : Nat} (h : i < s.size) : bt s (i : Int) = ((s.toList[i]'(by rw [len_toList]; exact h)).toNat : Int) := by
  rw [bt_get h]
  simp only [toList_bytes, List.getElem_map]
theorem next_nx (s : ByteArray) : ∀ n, n ≤ s.size → (strOfNums (Q.raised s (trimLen s n))).toList = nx (s.toList.take n)
  | 0, _ => by rw [trimLen, Q.raised, toList_str]; rfl
  | n + 1, hn => by
    have hlt : n < s.toList.length := by rw [len_toList]; omega
    have hb := bt_toList (s := s) (i := n) (by omega)
    rw [List.take_succ_eq_append_getElem hlt]
    by_cases h : bt s (n : Int) = 255
    · have e : s.toList[n] = 255 := by
        rw [hb] at h
        apply UInt8.toNat_inj.1
        have : (255 : UInt8).toNat = 255 := rfl
        rw [this]; omega
      rw [trimLen, if_pos h, next_nx s n (by omega), e, nx_snoc255]
    · have e : s.toList[n] ≠ 255 := by
        intro e
        apply h
        rw [hb, e]; rfl
      have hlt2 : n < (bytesOf s).length := by rw [size_bytes]; omega
      rw [trimLen, if_neg h, nx_snoc e, toList_str, Q.raised, List.take_succ_eq_append_getElem hlt2, List.set_append_right _ _ (by rw [List.length_take]; omega)]
      rw [List.length_take, Nat.min_eq_left (Nat.le_of_lt hlt2), Nat.sub_self, List.set_cons_zero, List.map_append]
      congr 1
      · rw [toList_bytes, ← List.map_take, List.map_map]
        have : ((fun n : Int => UInt8.ofNat n.toNat) ∘ fun b : UInt8 => (b.toNat : Int)) = id := by
          funext b
          simp
        rw [this, List.map_id]
      · rw [List.map_cons, List.map_nil]
        congr 1
        apply UInt8.toNat_inj.1
        have h1 := (s.toList[n]).toNat_lt
        have h2 := up_lt e
        have h3 : (s.toList[n]).toNat ≠ 255 := fun e2 => e (UInt8.toNat_inj.1 e2)
        rw [h2, hb]
        simp only [UInt8.toNat_ofNat']
        omega

/-- The piece of a row between two ends that its order bears. -/
theorem seg {α : Type} (p q : α → Bool) : ∀ l : List α, l.Pairwise (fun x y => p y = true → p x = true) → l.Pairwise (fun x y => q y = true → q x = true) → (∀ x ∈ l, p x = true → q x = true) →
    (l.take (l.takeWhile q).length).drop (l.takeWhile p).length = l.filter fun x => !p x && q x
  | [], _, _, _ => rfl
  | x :: t, hp, hq, hpq => by
    have ih := seg p q t (List.Pairwise.of_cons hp) (List.Pairwise.of_cons hq) (fun y hy => hpq y (by simp [hy]))
    by_cases h1 : p x = true
    · have h2 := hpq x (by simp) h1
      simp [h1, h2, ih]
    · have hpt : ∀ y ∈ t, p y = false := fun y hy => Bool.eq_false_iff.2 fun e => h1 ((List.pairwise_cons.1 hp).1 y hy e)
      have h1' : p x = false := Bool.eq_false_iff.2 h1
      have h0 : (t.takeWhile p).length = 0 := by
        cases t with
        | nil => rfl
        | cons y s => simp [hpt y (by simp)]
      rw [h0, List.drop_zero] at ih
      by_cases h2 : q x = true
      · simp [h1', h2, ih]
      · have hqt : ∀ y ∈ t, q y = false := fun y hy => Bool.eq_false_iff.2 fun e => h2 ((List.pairwise_cons.1 hq).1 y hy e)
        have h2' : q x = false := Bool.eq_false_iff.2 h2
        simp only [List.takeWhile_cons, h1', h2', Bool.not_false, Bool.and_false, List.filter_cons]
        simp only [Bool.false_eq_true, if_false, List.length_nil, List.take_zero, List.drop_zero]
        exact (List.filter_eq_nil_iff.2 (fun y hy => by simp [hqt y hy])).symm
theorem tw_true {α : Type} : ∀ l : List α, l.takeWhile (fun _ => true) = l
  | [] => rfl
  | a :: t => by rw [List.takeWhile_cons_of_pos rfl, tw_true t]
/-- Has a key this head? -/
def pfx (h k : ByteArray) : Bool := decide (k.toList.take h.toList.length = h.toList)
theorem begin_seg {l : List S69} (ha : Asc l) (h : ByteArray) (n : ByteArray) (hn : n.toList = nx h.toList) :
    (l.take (if n.toList = [] then l.length else cut l n)).drop (cut l h) = l.filter (fun r => pfx h r.f0) := by
  have hmono : ∀ k : ByteArray, l.Pairwise (fun x y => kl y.f0 k = true → kl x.f0 k = true) := fun k => ha.imp (fun hxy hy => kl_trans hxy hy)
  have h1 := seg (fun r : S69 => kl r.f0 h) (fun r => if n.toList = [] then true else kl r.f0 n) l (hmono h) (by
    by_cases e : n.toList = []
    · simp only [e, if_pos]; exact ha.imp (fun _ _ => trivial)
    · simpa [e] using hmono n) (fun x _ hx => by
    by_cases e : n.toList = []
    · simp [e]
    · rcases less_nx _ _ hx with h2 | h2
      · rw [← hn] at h2; exact absurd h2 e
      · rw [if_neg e]; unfold kl; rw [hn]; exact h2)
  have e1 : (l.takeWhile fun r => if n.toList = [] then true else kl r.f0 n).length = if n.toList = [] then l.length else cut l n := by
    by_cases e : n.toList = []
    · simp [e, tw_true]
    · simp [e, cut]
  rw [e1] at h1
  refine Eq.trans h1 (List.filter_congr fun r _ => ?_)
  have := has_head h.toList r.f0.toList
  unfold pfx
  rw [Bool.eq_iff_iff, decide_eq_true_eq, this, ← hn]
  unfold kl
  by_cases e : n.toList = []
  · simp [e]
  · simp [e]
theorem same_l0 (l : List S69) (hl : l.length ≤ 1000000) : ∀ (d i : Nat), i + d = l.length → Ev (fun n => bagnalllaw_sameRows.l0 n l l (i : Int)) true
  | 0, i, hi => Ev.step (fun k => rfl) (Ev.neg (by omega) (Ev.now _))
  | d + 1, i, hi => by
    have e2 : wrap64 ((i : Int) + 1) = ((i + 1 : Nat) : Int) := wrap_succ (by omega)
    refine Ev.step (fun k => rfl) (Ev.pos (by omega) (Ev.pos (by omega) (Ev.pos (by omega) (Ev.neg (by simp) ?_))))
    rw [e2]
    exact same_l0 l hl d (i + 1) (by omega)
theorem same_ev (l : List S69) (hl : l.length ≤ 1000000) : Ev (fun n => bagnalllaw_sameRows.f n l l) true := by
  unfold bagnalllaw_sameRows.f
  exact Ev.pos rfl (same_l0 l hl l.length 0 (by omega))
end Go.Proofs.Ytnjidfgjldkkcaa.Plain
/- slices.ContainsFunc at rows, rows.Fault, rows.Set, walked. -/
namespace Go.Proofs.Ytnjidfgjldkkcaa.Q
open Go.RowKit Go.Proofs.YtnjidfgjldkkcaaW.PrintWords Go.Proofs.YtnjidfgjldkkcaaW.PrintLast Go.Proofs.YtnjidfgjldkkcaaW.PrintMore Go.Proofs.Ytnjidfgjldkkcaa.Plain
def oddR (r : S69) : Bool := decide (r.f0.size < 1 ∨ 20 < r.f0.size ∨ 20 < r.f1.size)
theorem oddR_f (r : S69) : rows_Fault_1.f r.f0 r.f1 = some (oddR r) := by
  unfold rows_Fault_1.f oddR
  rw [key_f, Option.bind_some]
  by_cases h : r.f0.size < 1 ∨ 20 < r.f0.size
  · rw [if_neg (by rw [decide_eq_false (fun hn => hn h)]; simp), decide_eq_true (show r.f0.size < 1 ∨ 20 < r.f0.size ∨ 20 < r.f1.size by omega)]
  · rw [if_pos (decide_eq_true h)]
    congr 1
    by_cases h2 : 20 < r.f1.size
    · rw [decide_eq_true (by omega), decide_eq_true (by omega)]
    · rw [decide_eq_false (by omega), decide_eq_false (by omega)]
set_option maxRecDepth 100000 in
set_option maxHeartbeats 4000000 in
theorem indexR_walk (A : Option Addr) (c : Nat) (l : List S69) (w : World) (hr : Kd.C k69 w A l.length l) (hc : l.length ≤ c) :
    Calls Try.prog 83 #[.slice A l.length c, .func (Fn.func 68) #[] #[]] w fun e w' => e = .returned (.int .i64 (idxF oddR l 0)) ∧ Below w.heap.size w w' := by
  have HR := Aside0.mk hr
  have HC := Aside0.mk hc
  have HM := Aside0.mk (Kd.C_max hr)
  clear hr hc
  go_enter Try.func83, Try.ntmps83
  go_wp2
  go_loopw [8] (fun vi wr => ∃ (i : Nat), vi = .int .i64 i ∧ Aside0 (i ≤ l.length) ∧ Aside0 (idxF oddR (l.drop i) i = idxF oddR l 0) ∧ Aside0 (Below w.heap.size w wr)) (fun vi _ => l.length - (intOf vi).toNat)
  case atStart => exact ⟨0, rfl, ⟨Nat.zero_le _⟩, ⟨rfl⟩, ⟨Below.refl _ _⟩⟩
  case round =>
    obtain ⟨i, rfl, hi, hs, HB⟩ := hrel
    have hi' := hi.out
    have hm' := HM.out
    by_cases hlt : i < l.length
    · obtain ⟨ad, rfl, x0, x1⟩ := at_T69 (Kd.C_below HR.out HB.out) (i : Int) (by omega) (by omega)
      have hst : Aside0 ((if oddR (rd_T69 l (i : Int)) = true then (i : Int) else idxF oddR (l.drop (i + 1)) ((i : Int) + 1)) = idxF oddR l 0) := ⟨by
        have := hs.out
        rw [List.drop_eq_getElem_cons hlt] at this
        rw [rd69 hlt]
        exact this⟩
      clear hs
      obtain ⟨r, hr⟩ : ∃ r, r = rd_T69 l (i : Int) := ⟨_, rfl⟩
      rw [← hr] at hst x0 x1
      clear hr
      rw [Int.toNat_natCast] at x0 x1
      obtain ⟨k, u⟩ := r
      obtain ⟨b, hb⟩ : ∃ b, Aside0 (b = oddR ⟨k, u⟩) := ⟨_, ⟨rfl⟩⟩
      rw [← hb.out] at hst
      cases b
      · have e : Aside0 (idxF oddR (l.drop (i + 1)) ((i : Int) + 1) = idxF oddR l 0) := ⟨by have := hst.out; rw [if_neg (by simp)] at this; exact this⟩
        go_wp2_with (go_at_call 68; refine (rows_Fault_1.calls k u false _ (by rw [hb.out]; exact oddR_f ⟨k, u⟩)).mono ?_; rintro e w1 ⟨rfl, hbl⟩; have HB1 := Aside0.mk (below_step HB.out hbl); clear hbl)
        go_roundw
        case rel => exact ⟨i + 1, by go_num, ⟨by omega⟩, e, HB1⟩
        case measure => simp [intOf]; omega
      · have e : Aside0 ((i : Int) = idxF oddR l 0) := ⟨by have := hst.out; rw [if_pos rfl] at this; exact this⟩
        go_wp2_with (go_at_call 68; refine (rows_Fault_1.calls k u true _ (by rw [hb.out]; exact oddR_f ⟨k, u⟩)).mono ?_; rintro e w1 ⟨rfl, hbl⟩; have HB1 := Aside0.mk (below_step HB.out hbl); clear hbl)
        go_ret
        rw [← e.out]
        exact ⟨rfl, HB1.out⟩
    · go_wp2
      go_ret
      have e := hs.out
      rw [List.drop_of_length_le (by omega)] at e
      rw [← e]
      exact ⟨rfl, HB.out⟩
set_option maxRecDepth 100000 in
set_option maxHeartbeats 4000000 in
theorem containsR_walk (A : Option Addr) (c : Nat) (l : List S69) (w : World) (hr : Kd.C k69 w A l.length l) (hc : l.length ≤ c) :
    Calls Try.prog 69 #[.slice A l.length c, .func (Fn.func 68) #[] #[]] w fun e w' => e = .returned (.bool (l.any oddR)) ∧ Below w.heap.size w w' := by
  go_enter Try.func69, Try.ntmps69
  go_wp2_with (go_at_call 83; refine (indexR_walk A c l _ hr hc).mono ?_; rintro e w1 ⟨rfl, hb⟩)
  go_ret
  rw [← idxF_any oddR l 0 (Int.le_refl 0)]
  exact ⟨rfl, hb⟩
def faultF (l cs : List S69) : Int := if 60 < cs.length then 1 else if cs.any oddR = true then 1 else if 40 < (changedF l cs).length then 10 else 0
theorem changedF_len (l cs : List S69) : (changedF l cs).length ≤ l.length + cs.length := by
  induction cs generalizing l with
  | nil => simp [changedF]
  | cons c t ih =>
    have := ih (stepR l c)
    have h2 := stepR_len l c
    simp only [changedF, List.foldl_cons, List.length_cons] at this ⊢
    omega
set_option maxRecDepth 100000 in
set_option maxHeartbeats 4000000 in
theorem fault_walk (A B : Option Addr) (c d : Nat) (l cs : List S69) (w : World) (hr : Kd.C k69 w A l.length l) (hc : l.length ≤ c) (hq : Kd.C k69 w B cs.length cs) (hd : cs.length ≤ d) (hl : l.length ≤ 800000) :
    Calls Try.prog 48 #[.slice A l.length c, .slice B cs.length d] w fun e w' => e = .returned (.int .i64 (faultF l cs)) ∧ Below w.heap.size w w' := by
  have HR := Aside0.mk hr
  have HC := Aside0.mk hc
  have HQ := Aside0.mk hq
  have HD := Aside0.mk hd
  clear hr hc hq hd
  by_cases h1 : 60 < cs.length
  · have e : Aside0 (faultF l cs = 1) := ⟨by unfold faultF; rw [if_pos h1]⟩
    go_enter Try.func48, Try.ntmps48
    go_wp2
    go_ret
    rw [e.out]
    exact ⟨rfl, Below.refl _ _⟩
  have hcalls : Aside0 (∀ W, Below w.heap.size w W → Calls Try.prog 69 #[.slice B cs.length d, .func (Fn.func 68) #[] #[]] W fun e w' => e = .returned (.bool (cs.any oddR)) ∧ Below W.heap.size W w') := ⟨fun W hW => containsR_walk B d cs W (Kd.C_below HQ.out hW) HD.out⟩
  by_cases h2 : cs.any oddR = true
  · have e : Aside0 (faultF l cs = 1) := ⟨by unfold faultF; rw [if_neg h1, if_pos h2]⟩
    rw [h2] at hcalls
    clear h2
    go_enter Try.func48, Try.ntmps48
    go_wp2_with (go_at_call 69; refine (hcalls.out _ (Below.refl _ _)).mono ?_; rintro e w1 ⟨rfl, hb⟩; have HB1 := Aside0.mk hb; clear hb)
    go_ret
    rw [e.out]
    exact ⟨rfl, HB1.out⟩
  have h2' : cs.any oddR = false := Bool.eq_false_iff.2 h2
  rw [h2'] at hcalls
  obtain ⟨ys, hys⟩ : ∃ ys, Aside0 (ys = changedF l cs) := ⟨_, ⟨rfl⟩⟩
  have hch : Aside0 (∀ W, Below w.heap.size w W → Calls Try.prog 49 #[.slice A l.length c, .slice B cs.length d] W fun e w' => ∃ v', e = .returned v' ∧ k69.R 69 w' W.heap.size (fun _ => True) v' ys ∧ Below W.heap.size W w') := ⟨fun W hW => hys.out ▸ changed_walk A B c d l cs W (Kd.C_below HR.out hW) HC.out (Kd.C_below HQ.out hW) HD.out (by omega)⟩
  have hyl : ys.length ≤ 900000 := by have := changedF_len l cs; rw [← hys.out] at this; omega
  by_cases h3 : 40 < ys.length
  · have e : Aside0 (faultF l cs = 10) := ⟨by unfold faultF; rw [if_neg h1, if_neg h2, if_pos (by rw [← hys.out]; exact h3)]⟩
    clear h2 h2'
    go_enter Try.func48, Try.ntmps48
    go_wp2_with (first | (go_at_call 69; refine (hcalls.out _ (Below.refl _ _)).mono ?_; rintro e w1 ⟨rfl, hb⟩; have HB1 := Aside0.mk hb; clear hb) | (go_at_call 49; refine (hch.out _ HB1.out).mono ?_; rintro e w2 ⟨v, rfl, ho, hb⟩; obtain ⟨A2, c2, rfl⟩ := Kd.R_slice ho; have HB2 := Aside0.mk (below_step HB1.out hb); clear ho hb))
    go_ret
    rw [e.out]
    exact ⟨rfl, HB2.out⟩
  · have e : Aside0 (faultF l cs = 0) := ⟨by unfold faultF; rw [if_neg h1, if_neg h2, if_neg (by rw [← hys.out]; exact h3)]⟩
    clear h2 h2'
    go_enter Try.func48, Try.ntmps48
    go_wp2_with (first | (go_at_call 69; refine (hcalls.out _ (Below.refl _ _)).mono ?_; rintro e w1 ⟨rfl, hb⟩; have HB1 := Aside0.mk hb; clear hb) | (go_at_call 49; refine (hch.out _ HB1.out).mono ?_; rintro e w2 ⟨v, rfl, ho, hb⟩; obtain ⟨A2, c2, rfl⟩ := Kd.R_slice ho; have HB2 := Aside0.mk (below_step HB1.out hb); clear ho hb))
    go_ret
    rw [e.out]
    exact ⟨rfl, HB2.out⟩
def setF (l cs : List S69) : List S69 × Int := if rowsErr l ≠ 0 then ([], rowsErr l) else if faultF l cs ≠ 0 then ([], faultF l cs) else (changedF l cs, 0)
def rows_Set.f (l cs : List S69) : Option (List S69 × Int) := some (setF l cs)
theorem check_walk (A : Option Addr) (c : Nat) (l : List S69) (w : World) (hr : Kd.C k69 w A l.length l) (hc : l.length ≤ c) :
    Calls Try.prog 18 #[.slice A l.length c] w fun e w' => e = .returned (.int .i64 (rowsErr l)) ∧ Below w.heap.size w w' := by
  obtain ⟨k, hk⟩ := (check_ev l).rounds
  exact rows_Check.calls k A c l _ w hr hc hk
theorem rowsErr_len {l : List S69} (h : rowsErr l = 0) : l.length ≤ 40 := by
  unfold rowsErr at h
  split at h
  · cases h
  · omega
set_option maxRecDepth 100000 in
set_option maxHeartbeats 4000000 in
theorem rows_Set.calls (A0 : Option Addr) (c0 : Nat) (l0 : List S69) (A1 : Option Addr) (c1 : Nat) (l1 : List S69) (r1 : List S69) (r2 : Int) (w : World) (hr0 : Kd.C k69 w A0 l0.length l0) (hc0 : l0.length ≤ c0) (hr1 : Kd.C k69 w A1 l1.length l1) (hc1 : l1.length ≤ c1) (h : rows_Set.f l0 l1 = some (r1, r2)) :
    Calls Try.prog 25 #[.slice A0 l0.length c0, .slice A1 l1.length c1] w fun e w' => ∃ v0_ : Value, e = .returned (.tuple #[v0_, .int .i64 r2]) ∧ k69.R 69 w' w.heap.size (fun _ => True) v0_ r1 ∧ Below w.heap.size w w' := by
  replace h := Option.some.inj h
  unfold setF at h
  have HR := Aside0.mk hr0
  have HC := Aside0.mk hc0
  have HQ := Aside0.mk hr1
  have HD := Aside0.mk hc1
  obtain ⟨e1, he1⟩ : ∃ z, z = rowsErr l0 := ⟨_, rfl⟩
  obtain ⟨e2, he2⟩ : ∃ z, z = faultF l0 l1 := ⟨_, rfl⟩
  have H1 : Aside0 (∀ W, Below w.heap.size w W → Calls Try.prog 18 #[.slice A0 l0.length c0] W fun e w' => e = .returned (.int .i64 e1) ∧ Below W.heap.size W w') := ⟨fun W hW => he1 ▸ check_walk A0 c0 l0 W (Kd.C_below hr0 hW) hc0⟩
  rw [← he1, ← he2] at h
  by_cases h1 : e1 ≠ 0
  · rw [if_pos h1] at h
    obtain ⟨rfl, rfl⟩ := Prod.mk.inj h
    clear he1 he2 h hr0 hr1
    go_enter Try.func25, Try.ntmps25
    go_wp2_with (go_at_call 18; refine (H1.out _ (Below.refl _ _)).mono ?_; rintro e w1 ⟨rfl, hb⟩; have HB1 := Aside0.mk hb; clear hb)
    go_ret2
    exact ⟨_, rfl, Kd.R_nil _ _ _ _ _, HB1.out⟩
  rw [if_neg h1] at h
  obtain rfl : e1 = 0 := by omega
  have hl40 := rowsErr_len he1.symm
  have H2 : Aside0 (∀ W, Below w.heap.size w W → Calls Try.prog 48 #[.slice A0 l0.length c0, .slice A1 l1.length c1] W fun e w' => e = .returned (.int .i64 e2) ∧ Below W.heap.size W w') := ⟨fun W hW => he2 ▸ fault_walk A0 A1 c0 c1 l0 l1 W (Kd.C_below hr0 hW) hc0 (Kd.C_below hr1 hW) hc1 (by omega)⟩
  by_cases h2 : e2 ≠ 0
  · rw [if_pos h2] at h
    obtain ⟨rfl, rfl⟩ := Prod.mk.inj h
    clear he1 he2 h hr0 hr1 h1
    go_enter Try.func25, Try.ntmps25
    go_wp2_with (first | (go_at_call 18; refine (H1.out _ (Below.refl _ _)).mono ?_; rintro e w1 ⟨rfl, hb⟩; have HB1 := Aside0.mk hb; clear hb) | (go_at_call 48; refine (H2.out _ HB1.out).mono ?_; rintro e w2 ⟨rfl, hb⟩; have HB2 := Aside0.mk (below_step HB1.out hb); clear hb))
    go_ret2
    exact ⟨_, rfl, Kd.R_nil _ _ _ _ _, HB2.out⟩
  rw [if_neg h2] at h
  obtain rfl : e2 = 0 := by omega
  have hl60 : l1.length ≤ 60 := by
    have := he2
    unfold faultF at this
    by_cases hh : 60 < l1.length
    · rw [if_pos hh] at this; omega
    · omega
  have H3 : Aside0 (∀ W, Below w.heap.size w W → Calls Try.prog 49 #[.slice A0 l0.length c0, .slice A1 l1.length c1] W fun e w' => ∃ v', e = .returned v' ∧ k69.R 69 w' W.heap.size (fun _ => True) v' (changedF l0 l1) ∧ Below W.heap.size W w') := ⟨fun W hW => changed_walk A0 A1 c0 c1 l0 l1 W (Kd.C_below hr0 hW) hc0 (Kd.C_below hr1 hW) hc1 (by omega)⟩
  obtain ⟨rfl, rfl⟩ := Prod.mk.inj h
  clear he1 he2 h hr0 hr1 h1 h2
  go_enter Try.func25, Try.ntmps25
  go_wp2_with (first | (go_at_call 18; refine (H1.out _ (Below.refl _ _)).mono ?_; rintro e w1 ⟨rfl, hb⟩; have HB1 := Aside0.mk hb; clear hb) | (go_at_call 48; refine (H2.out _ HB1.out).mono ?_; rintro e w2 ⟨rfl, hb⟩; have HB2 := Aside0.mk (below_step HB1.out hb); clear hb) | (go_at_call 49; refine (H3.out _ HB2.out).mono ?_; rintro e w3 ⟨v, rfl, ho, hb⟩; have HO3 := Aside0.mk (Kd.R_lower ho HB2.out.size); have HB3 := Aside0.mk (below_step HB2.out hb); clear ho hb))
  go_ret2
  exact ⟨_, rfl, HO3.out, HB3.out⟩
end Go.Proofs.Ytnjidfgjldkkcaa.Q
/- Plain laws of changes of a table: one change as the reference makes it; many. -/
namespace Go.Proofs.Ytnjidfgjldkkcaa.Plain
open Go.RowKit Go.Proofs.Ytnjidfgjldkkcaa.Q Go.Proofs.YtnjidfgjldkkcaaW.PrintWords
/-- A row more or less, as the reference walks: inn: it is in already. -/
def insW (c : S69) : Bool → List S69 → List S69
  | inn, [] => if inn = true then [] else [c]
  | inn, r :: t => if (!inn && kl c.f0 r.f0) = true then (if r.f0 = c.f0 then c :: insW c true t else c :: r :: insW c true t) else (if r.f0 = c.f0 then insW c inn t else r :: insW c inn t)
def refSet (l : List S69) (c : S69) : List S69 := insW c (decide (c.f1.toList = [])) l
theorem insW_len (c : S69) : ∀ (inn : Bool) (l : List S69), (insW c inn l).length ≤ l.length + 1
  | inn, [] => by unfold insW; split <;> simp
  | inn, r :: t => by
    have h1 := insW_len c true t
    have h2 := insW_len c inn t
    have h3 : (insW c true t).length ≤ t.length := by
      clear h1 h2
      induction t with
      | nil => simp [insW]
      | cons a t ih => unfold insW; simp only [Bool.not_true, Bool.false_and, Bool.false_eq_true, if_false]; split <;> simp <;> omega
    unfold insW
    repeat' split
    all_goals simp only [List.length_cons]; omega
theorem insW_true (c : S69) : ∀ l : List S69, (∀ r ∈ l, kl c.f0 r.f0 = true) → insW c true l = l
  | [], _ => by simp [insW]
  | r :: t, h => by
    have h1 := h r (by simp)
    have hne : ¬ r.f0 = c.f0 := fun e => by rw [e, kl_irr] at h1; cases h1
    unfold insW
    simp only [Bool.not_true, Bool.false_and, Bool.false_eq_true, if_false]
    rw [if_neg hne, insW_true c t (fun x hx => h x (by simp [hx]))]
theorem insW_new (c : S69) (l : List S69) (h : ∀ r ∈ l, kl c.f0 r.f0 = true) : insW c false l = c :: l := by
  cases l with
  | nil => simp [insW]
  | cons r t =>
    have h1 := h r (by simp)
    have hne : ¬ r.f0 = c.f0 := fun e => by rw [e, kl_irr] at h1; cases h1
    unfold insW
    rw [if_pos (by rw [h1]; rfl), if_neg hne, insW_true c t (fun x hx => h x (by simp [hx]))]
theorem cut_cons_true {r : S69} {t : List S69} {k : ByteArray} (h : kl r.f0 k = true) : cut (r :: t) k = cut t k + 1 := by
  unfold cut; rw [List.takeWhile_cons, if_pos h, List.length_cons]
theorem cut_cons_false {r : S69} {t : List S69} {k : ByteArray} (h : ¬ kl r.f0 k = true) : cut (r :: t) k = 0 := by
  unfold cut; rw [List.takeWhile_cons, if_neg h]; rfl
theorem placeB_false {l : List S69} (ha : Asc l) {k : ByteArray} (h : ¬ ∃ h : cut l k < l.length, l[cut l k].f0 = k) : placeB l k = false := Bool.eq_false_iff.2 fun e => h ((placeB_iff ha k).1 e)
theorem stepR_cons {r : S69} {t : List S69} (ha : Asc (r :: t)) (c : S69) (h : kl r.f0 c.f0 = true) : stepR (r :: t) c = r :: stepR t c := by
  have hat := List.Pairwise.of_cons ha
  have hc := cut_cons_true (t := t) h
  have hb : placeB (r :: t) c.f0 = placeB t c.f0 := by
    rw [Bool.eq_iff_iff, placeB_iff ha, placeB_iff hat]
    constructor
    · rintro ⟨h1, h2⟩
      refine ⟨by rw [hc, List.length_cons] at h1; omega, ?_⟩
      simp only [hc, List.getElem_cons_succ] at h2
      exact h2
    · rintro ⟨h1, h2⟩
      refine ⟨by rw [hc, List.length_cons]; omega, ?_⟩
      simp only [hc, List.getElem_cons_succ]
      exact h2
  unfold stepR
  rw [hb, placeI_cut ha, placeI_cut hat, hc]
  split
  · split
    · rfl
    · rfl
  · split
    · rfl
    · unfold insRow; simp
theorem refSet_step : ∀ (l : List S69), Asc l → ∀ c, refSet l c = stepR l c
  | [], ha, c => by
    have hb : placeB [] c.f0 = false := placeB_false ha (by rintro ⟨h, _⟩; simp at h)
    unfold refSet stepR
    rw [hb, if_neg (by simp)]
    by_cases hu : c.f1.toList = []
    · rw [if_pos hu, decide_eq_true hu]; simp [insW]
    · rw [if_neg hu, decide_eq_false hu, placeI_cut ha]; simp [insW, insRow, cut]
  | r :: t, ha, c => by
    have hat := List.Pairwise.of_cons ha
    have hr := (List.pairwise_cons.1 ha).1
    by_cases h1 : kl r.f0 c.f0 = true
    · rw [stepR_cons ha c h1, ← refSet_step t hat c]
      have h2 := kl_asym h1
      have hne : ¬ r.f0 = c.f0 := fun e => by rw [e, kl_irr] at h1; cases h1
      unfold refSet
      conv => lhs; unfold insW
      rw [h2, Bool.and_false, if_neg (by simp), if_neg hne]
    · have h0 := cut_cons_false (t := t) h1
      by_cases h2 : r.f0 = c.f0
      · have hb : placeB (r :: t) c.f0 = true := (placeB_iff ha _).2 ⟨by rw [h0]; simp, by simp only [h0, List.getElem_cons_zero]; exact h2⟩
        have ht : ∀ x ∈ t, kl c.f0 x.f0 = true := fun x hx => h2 ▸ hr x hx
        have hk : kl c.f0 r.f0 = false := by rw [h2]; exact kl_irr _
        unfold refSet stepR
        rw [if_pos hb, placeI_cut ha, h0]
        unfold insW
        rw [hk, Bool.and_false, if_neg (by simp), if_pos h2]
        by_cases hu : c.f1.toList = []
        · rw [if_pos hu, decide_eq_true hu, insW_true c t ht]; rfl
        · rw [if_neg hu, decide_eq_false hu, insW_new c t ht]; rfl
      · have hk : kl c.f0 r.f0 = true := by
          cases hk : kl c.f0 r.f0
          · exact absurd (kl_tri (Bool.eq_false_iff.2 h1) hk) h2
          · rfl
        have ht : ∀ x ∈ t, kl c.f0 x.f0 = true := fun x hx => kl_trans hk (hr x hx)
        have hb : placeB (r :: t) c.f0 = false := placeB_false ha (by rintro ⟨h, e⟩; simp only [h0, List.getElem_cons_zero] at e; exact h2 e)
        unfold refSet stepR
        rw [hb, if_neg (by simp), placeI_cut ha, h0]
        by_cases hu : c.f1.toList = []
        · rw [if_pos hu, decide_eq_true hu, insW_true c _ (by intro x hx; rcases List.mem_cons.1 hx with rfl | hx; exact hk; exact ht x hx)]
        · rw [if_neg hu, decide_eq_false hu, insW_new c _ (by intro x hx; rcases List.mem_cons.1 hx with rfl | hx; exact hk; exact ht x hx)]; rfl
theorem insW_mem (c : S69) : ∀ (inn : Bool) (l : List S69) (x : S69), x ∈ insW c inn l → x = c ∨ x ∈ l
  | inn, [], x, h => by unfold insW at h; split at h <;> simp at h; exact .inl h
  | inn, r :: t, x, h => by
    unfold insW at h
    repeat' split at h
    all_goals simp only [List.mem_cons] at h ⊢
    · rcases h with h | h
      · exact .inl h
      · rcases insW_mem c true t x h with h | h
        · exact .inl h
        · exact .inr (.inr h)
    · rcases h with h | h | h
      · exact .inl h
      · exact .inr (.inl h)
      · rcases insW_mem c true t x h with h | h
        · exact .inl h
        · exact .inr (.inr h)
    · rcases insW_mem c inn t x h with h | h
      · exact .inl h
      · exact .inr (.inr h)
    · rcases h with h | h
      · exact .inr (.inl h)
      · rcases insW_mem c inn t x h with h | h
        · exact .inl h
        · exact .inr (.inr h)
theorem stepR_asc : ∀ (l : List S69), Asc l → ∀ c, Asc (stepR l c)
  | [], ha, c => by
    rw [← refSet_step [] ha c]
    unfold refSet insW
    split
    · exact List.Pairwise.nil
    · exact List.pairwise_singleton _ _
  | r :: t, ha, c => by
    have hat := List.Pairwise.of_cons ha
    have hr := (List.pairwise_cons.1 ha).1
    by_cases h1 : kl r.f0 c.f0 = true
    · rw [stepR_cons ha c h1]
      refine List.Pairwise.cons (fun x hx => ?_) (stepR_asc t hat c)
      rw [← refSet_step t hat c] at hx
      rcases insW_mem c _ t x hx with rfl | hx
      · exact h1
      · exact hr x hx
    · rw [← refSet_step _ ha c]
      by_cases h2 : r.f0 = c.f0
      · have ht : ∀ x ∈ t, kl c.f0 x.f0 = true := fun x hx => h2 ▸ hr x hx
        have hk : kl c.f0 r.f0 = false := by rw [h2]; exact kl_irr _
        unfold refSet insW
        rw [hk, Bool.and_false, if_neg (by simp), if_pos h2]
        cases decide (c.f1.toList = [])
        · rw [insW_new c t ht]; exact List.Pairwise.cons ht hat
        · rw [insW_true c t ht]; exact hat
      · have hk : kl c.f0 r.f0 = true := by
          cases hk : kl c.f0 r.f0
          · exact absurd (kl_tri (Bool.eq_false_iff.2 h1) hk) h2
          · rfl
        have ht : ∀ x ∈ r :: t, kl c.f0 x.f0 = true := by
          intro x hx
          rcases List.mem_cons.1 hx with rfl | hx
          · exact hk
          · exact kl_trans hk (hr x hx)
        unfold refSet
        cases decide (c.f1.toList = [])
        · rw [insW_new c _ ht]; exact List.Pairwise.cons ht ha
        · rw [insW_true c _ ht]; exact ha
theorem changed_asc : ∀ (cs l : List S69), Asc l → Asc (changedF l cs)
  | [], _, h => h
  | c :: t, l, h => changed_asc t (stepR l c) (stepR_asc l h c)
theorem tl_eq {a b : ByteArray} : a.toList = b.toList ↔ a = b := toList_inj
theorem set_l0 (c : S69) (l : List S69) (hl : l.length ≤ 1000000) : ∀ (d i : Nat) (x : List S69) (inn : Bool), i + d = l.length → x.length ≤ 2 * i + 1 →
    Ev (fun n => bagnallref_rowsSet.l0 n x inn l (l.length : Int) (i : Int) c.f0 c.f1) (x ++ insW c inn (l.drop i))
  | 0, i, x, inn, hi, hx => by
    rw [List.drop_of_length_le (by omega)]
    refine Ev.step (fun k => rfl) (Ev.neg (by omega) ?_)
    cases inn
    · exact Ev.neg (by simp) (Ev.pos (by omega) (Ev.to (Ev.now _) (by simp [insW])))
    · exact Ev.pos rfl (Ev.to (Ev.now _) (by simp [insW]))
  | d + 1, i, x, inn, hi, hx => by
    have hlt : i < l.length := by omega
    have e2 : wrap64 ((i : Int) + 1) = ((i + 1 : Nat) : Int) := wrap_succ (by omega)
    rw [List.drop_eq_getElem_cons hlt]
    have hj : ∀ b : Bool, b = (!inn && kl c.f0 l[i].f0) → Ev (fun n => bagnallref_rowsSet.j1 n x inn l (l.length : Int) (i : Int) b c.f0 c.f1 l[i].f0 l[i].f1) (x ++ insW c inn (l[i] :: l.drop (i + 1))) := by
      intro b hb
      refine Ev.step (fun k => rfl) ?_
      unfold insW
      rw [← hb]
      cases b
      · rw [if_neg (by simp)]
        by_cases h : l[i].f0 = c.f0
        · rw [if_pos h]
          refine Ev.pos (tl_eq.2 h) ?_
          rw [e2]
          exact set_l0 c l hl d (i + 1) x inn (by omega) (by omega)
        · rw [if_neg h]
          refine Ev.neg (fun e => h (tl_eq.1 e)) (Ev.pos (by omega) ?_)
          rw [e2]
          exact Ev.to (set_l0 c l hl d (i + 1) (x ++ [l[i]]) inn (by omega) (by simp; omega)) (by rw [List.append_assoc]; rfl)
      · rw [if_pos rfl]
        refine Ev.pos (by omega) (Ev.bind (Ev.lift (r := x ++ [c]) rfl) ?_)
        by_cases h : l[i].f0 = c.f0
        · rw [if_pos h]
          refine Ev.pos (tl_eq.2 h) ?_
          rw [e2]
          exact Ev.to (set_l0 c l hl d (i + 1) (x ++ [c]) true (by omega) (by simp; omega)) (by rw [List.append_assoc]; rfl)
        · rw [if_neg h]
          refine Ev.neg (fun e => h (tl_eq.1 e)) (Ev.pos (by simp; omega) ?_)
          rw [e2]
          exact Ev.to (set_l0 c l hl d (i + 1) (x ++ [c] ++ [l[i]]) true (by omega) (by simp; omega)) (by rw [List.append_assoc, List.append_assoc]; rfl)
    refine Ev.step (fun k => rfl) (Ev.pos (by omega) (Ev.pos (by omega) (Ev.pos (by omega) ?_)))
    rw [rd69 hlt]
    cases inn
    · exact Ev.neg (by simp) (hj _ rfl)
    · exact Ev.pos rfl (hj _ rfl)
theorem set_ev (l : List S69) (c : S69) (hl : l.length ≤ 1000000) : Ev (fun n => bagnallref_rowsSet.f n l c.f0 c.f1) (refSet l c) := by
  unfold bagnallref_rowsSet.f refSet
  have h := set_l0 c l hl l.length 0 [] (c.f1.toList == []) (by omega) (by simp)
  rw [List.drop_zero, List.nil_append] at h
  have e : decide (c.f1.toList = []) = (c.f1.toList == []) := by
    rw [Bool.eq_iff_iff, decide_eq_true_eq, beq_iff_eq]
  rw [e]
  exact h
/-- What the reference says of changes. -/
def chgF (l cs : List S69) : List S69 × Int := if faultF l cs ≠ 0 then ([], faultF l cs) else (changedF l cs, 0)
theorem chg_l0 (cs : List S69) (hc : cs.length ≤ 60) : ∀ (d i : Nat) (now : List S69), i + d = cs.length → Asc now → now.length ≤ 1000 + i →
    Ev (fun n => bagnallref_rowsChanges.l0 n now cs (cs.length : Int) (i : Int)) (if (cs.drop i).any oddR = true then ([], 1) else if 40 < (changedF now (cs.drop i)).length then ([], 10) else (changedF now (cs.drop i), 0))
  | 0, i, now, hi, _, hn => by
    rw [List.drop_of_length_le (by omega)]
    refine Ev.step (fun k => rfl) (Ev.neg (by omega) ?_)
    show Ev _ (if 40 < now.length then ([], 10) else (now, 0))
    by_cases h : 40 < now.length
    · rw [if_pos h]; exact Ev.pos (by omega) (Ev.now _)
    · rw [if_neg h]; exact Ev.neg (by omega) (Ev.now _)
  | d + 1, i, now, hi, ha, hn => by
    have hlt : i < cs.length := by omega
    have e2 : wrap64 ((i : Int) + 1) = ((i + 1 : Nat) : Int) := wrap_succ (by omega)
    rw [List.drop_eq_getElem_cons hlt]
    refine Ev.step (fun k => rfl) (Ev.pos (by omega) (Ev.pos (by omega) (Ev.pos (by omega) ?_)))
    rw [rd69 hlt, e2]
    have ho : oddR cs[i] = decide (cs[i].f0.size < 1 ∨ 20 < cs[i].f0.size ∨ 20 < cs[i].f1.size) := rfl
    rw [List.any_cons]
    by_cases h1 : cs[i].f0.size < 1
    · rw [if_pos (by rw [ho, decide_eq_true (by omega)]; rfl)]
      exact Ev.pos (by omega) (Ev.now _)
    refine Ev.neg (by omega) ?_
    by_cases h2 : 20 < cs[i].f0.size
    · rw [if_pos (by rw [ho, decide_eq_true (by omega)]; rfl)]
      exact Ev.pos (by omega) (Ev.now _)
    refine Ev.neg (by omega) ?_
    by_cases h3 : 20 < cs[i].f1.size
    · rw [if_pos (by rw [ho, decide_eq_true (by omega)]; rfl)]
      exact Ev.pos (by omega) (Ev.now _)
    refine Ev.neg (by omega) ?_
    have hodd : oddR cs[i] = false := by rw [ho]; exact decide_eq_false (by omega)
    rw [hodd, Bool.false_or]
    have hs := set_ev now cs[i] (by omega)
    rw [refSet_step now ha] at hs
    have hsl := stepR_len now cs[i]
    exact Ev.bind hs (chg_l0 cs hc d (i + 1) (stepR now cs[i]) (by omega) (stepR_asc now ha _) (by omega))
theorem chg_ev (l cs : List S69) (ha : Asc l) (hl : l.length ≤ 1000) : Ev (fun n => bagnallref_rowsChanges.f n l cs) (chgF l cs) := by
  unfold bagnallref_rowsChanges.f chgF faultF
  by_cases h0 : 60 < cs.length
  · rw [if_pos h0, if_pos (by omega)]
    exact Ev.pos (by omega) (Ev.now _)
  rw [if_neg h0]
  refine Ev.neg (by omega) ?_
  have h := chg_l0 cs (by omega) cs.length 0 l (by omega) ha (by omega)
  rw [List.drop_zero] at h
  refine Ev.to h ?_
  by_cases h1 : cs.any oddR = true
  · rw [if_pos h1, if_pos h1, if_pos (by omega)]
  rw [if_neg h1, if_neg h1]
  by_cases h2 : 40 < (changedF l cs).length
  · rw [if_pos h2, if_pos h2, if_pos (by omega)]
  · rw [if_neg h2, if_neg h2, if_neg (by omega)]
theorem refRowsSet_ev (l cs : List S69) : Ev (fun n => bagnallref_RowsSet.f n l cs) (setF l cs) := by
  unfold bagnallref_RowsSet.f setF
  refine Ev.bind (fault_ev l) ?_
  by_cases h : rowsErr l = 0
  · rw [if_neg (by omega)]
    obtain ⟨hl, _, ha⟩ := rowsErr_zero h
    exact Ev.pos h (Ev.bind (chg_ev l cs ha (by omega)) (Ev.now _))
  · rw [if_pos h]
    exact Ev.neg h (Ev.now _)
theorem setF_len (l cs : List S69) : (setF l cs).1.length ≤ 1000 := by
  unfold setF
  split
  · simp
  · split
    · simp
    · rename_i h1 h2
      have := rowsErr_len (Decidable.not_not.1 h1)
      have h3 := changedF_len l cs
      have h4 : cs.length ≤ 60 := by
        replace h2 := Decidable.not_not.1 h2
        unfold faultF at h2
        by_cases hh : 60 < cs.length
        · rw [if_pos hh] at h2; omega
        · omega
      show (changedF l cs).length ≤ _
      omega
end Go.Proofs.Ytnjidfgjldkkcaa.Plain
/- bagnallref.StoreRecover, walked to the same plain function as store.Recover. -/
namespace Go.Proofs.Ytnjidfgjldkkcaa.Q
open Go.RowKit Go.Proofs.YtnjidfgjldkkcaaW.PrintWords Go.Proofs.YtnjidfgjldkkcaaW.PrintLast Go.Proofs.YtnjidfgjldkkcaaW.PrintMore Go.Proofs.Ytnjidfgjldkkcaa.Plain
theorem set_walk (A : Option Addr) (c : Nat) (t : List S69) (r : S69) (w : World) (hr : Kd.C k69 w A t.length t) (hc : t.length ≤ c) (ha : Asc t) (hl : t.length ≤ 1000000) :
    Calls Try.prog 60 #[.slice A t.length c, .agg #[.string r.f0, .string r.f1]] w fun e w' => ∃ v0_ : Value, e = .returned (v0_) ∧ k69.R 69 w' w.heap.size (fun _ => True) v0_ (stepR t r) ∧ Below w.heap.size w w' := by
  obtain ⟨n, hn⟩ := (set_ev t r hl).rounds
  rw [refSet_step t ha] at hn
  exact bagnallref_rowsSet.calls n A c t r.f0 r.f1 _ w hr hc hn
/-- The table behind records, one by one; none: one of these is no row. -/
def tabOf : List S69 → List (List Int) → Option (List S69)
  | t, [] => some t
  | t, r :: rest => if (rowF r).2 = true then tabOf (stepR t (rowF r).1) rest else none
theorem tabOf_rows (t0 : List S69) : ∀ (m : List (List Int)) (acc : List S69), tabOf (changedF t0 acc) m = (rowsOf acc m).map (changedF t0)
  | [], acc => rfl
  | r :: rest, acc => by
    unfold tabOf rowsOf
    by_cases h : (rowF r).2 = true
    · rw [if_pos h, if_pos h, ← tabOf_rows t0 rest]
      unfold changedF
      rw [List.foldl_append]
      rfl
    · rw [if_neg h, if_neg h]; rfl
theorem recF_tab (t : List S69) (m : List (List Int)) (rest : List (List (List Int))) : recF t (m :: rest) = match tabOf t m with | none => none | some t' => if 40 < t'.length then none else recF t' rest := by
  rw [recF_cons]
  have := tabOf_rows t m []
  rw [show changedF t [] = t from rfl] at this
  rw [this]
  cases rowsOf [] m <;> rfl
set_option maxRecDepth 100000 in
set_option maxHeartbeats 8000000 in
theorem refRecover_walk (A : Option Addr) (c : Nat) (b : List Int) (w : World) (hr : Kd.C (Kd.int .u8) w A b.length b) (hc : b.length ≤ c) (hb : ∀ x ∈ b, 0 ≤ x ∧ x ≤ 255) :
    Calls Try.prog 37 #[.slice A b.length c] w (ReadEnd w (recoverF b)) := by
  have H31 := Aside0.mk (refScan_walk A c b w hr hc hb)
  by_cases hbig : 1200 < b.length
  · have e : Aside0 (recoverF b = ([], 0, 1)) := ⟨by unfold recoverF; rw [if_pos hbig]⟩
    have e2 : scanF b = ([], 0, 1) := by unfold scanF; rw [if_pos hbig]
    rw [e2] at H31
    clear e2 hr hb
    go_enter Try.func37, Try.ntmps37
    go_wp2_with (go_at_call 31; refine H31.out.mono ?_; rintro e w1 ⟨v, rfl, ho, hb⟩; obtain ⟨A5, c5, rfl⟩ := Kd.R_slice ho; have HB1 := Aside0.mk hb; clear ho hb)
    go_ret3
    rw [e.out]
    exact ⟨_, rfl, Kd.R_nil _ _ _ _ _, HB1.out⟩
  have hgood := readF_good b hb (b.length + 1) [] [] 0 0 (by simp) (by simp)
  have hlen := readF_len b 2000 (b.length + 1) [] [] 0 0 (by simp) (by simp; omega)
  obtain ⟨q, hq⟩ : ∃ q, q = readF b (b.length + 1) [] [] 0 0 := ⟨_, rfl⟩
  have hres : Aside0 (recoverF b = match recF [] q.1 with | none => ([], 0, 4) | some t => (t, (q.2 : Int), 0)) := ⟨by unfold recoverF readS; rw [if_neg hbig, ← hq]; cases recF [] q.1 <;> rfl⟩
  have e2 : scanF b = (q.1, (q.2 : Int), 0) := by unfold scanF; rw [if_neg hbig, ← hq]
  rw [e2] at H31
  rw [← hq] at hgood hlen
  obtain ⟨bs, used⟩ := q
  simp only at H31 hgood hlen
  have HG := Aside0.mk hgood
  have HL := Aside0.mk hlen
  clear hgood hlen hq hr hb e2
  go_enter Try.func37, Try.ntmps37
  go_wp2_with (go_at_call 31; refine H31.out.mono ?_; rintro e w1 ⟨v, rfl, ho, hb⟩; obtain ⟨A5, c5, rfl⟩ := Kd.R_slice ho; have HO5 := Aside0.mk (Kd.R_reads' ho); have HB1 := Aside0.mk hb; clear ho hb)
  have hbl : bs.length ≤ 2000 := by have := HL.out.1; simp only [List.length_nil] at this; omega
  go_loopw [8, 25] (fun v8 v25 wr => ∃ (i : Nat) (t : List S69), v25 = .int .i64 i ∧ Aside0 (i ≤ bs.length) ∧ Aside0 (recF t (bs.drop i) = recF [] bs) ∧ Aside0 (t.length ≤ 40) ∧ Aside0 (Asc t) ∧ Aside0 (k69.R 69 wr w1.heap.size (fun _ => True) v8 t) ∧ Aside0 (Below w1.heap.size w1 wr)) (fun _ v25 _ => bs.length - (intOf v25).toNat)
  case atStart => exact ⟨0, [], rfl, ⟨Nat.zero_le _⟩, ⟨rfl⟩, ⟨by simp⟩, ⟨List.Pairwise.nil⟩, ⟨Kd.R_nil _ _ _ _ _⟩, ⟨Below.refl _ _⟩⟩
  case round =>
    obtain ⟨i, t, rfl, hi, hs, htl, hta, HT, HB⟩ := hrel
    have hil := hi.out
    by_cases hlt : i < bs.length
    · obtain ⟨ad, A0, c0, rfl, x0w, l0, g0⟩ := at_L5 HO5.out.2.2 (i : Int) (by omega) (by omega)
      have x0 := (HB.out.cell (World.block_lt_of_cell? w1 _ x0w)).trans x0w
      clear x0w
      rw [Int.toNat_natCast] at x0
      obtain ⟨m, hm⟩ : ∃ m, m = rd_L5 bs (i : Int) := ⟨_, rfl⟩
      rw [← hm] at x0 l0 g0
      have hst : Aside0 (recF t (m :: bs.drop (i + 1)) = recF [] bs) := ⟨by rw [hm, rdL5_at' hlt, ← List.drop_eq_getElem_cons hlt]; exact hs.out⟩
      have hmm : m ∈ bs := by rw [hm, rdL5_at' hlt]; exact List.getElem_mem _
      have HGm : Aside0 (∀ r ∈ m, GoodRec r) := ⟨HG.out m hmm⟩
      have hml : m.length ≤ 2000 := HL.out.2 m hmm
      have G0 := Aside0.mk g0
      clear hm hmm g0 hs
      go_wp2
      go_loopw [8, 31] (fun v8 v31 wr => ∃ (j : Nat) (s : List S69), v31 = .int .i64 j ∧ Aside0 (j ≤ m.length) ∧ Aside0 (tabOf s (m.drop j) = tabOf t m) ∧ Aside0 (s.length ≤ 40 + j) ∧ Aside0 (Asc s) ∧ Aside0 (k69.R 69 wr w1.heap.size (fun _ => True) v8 s) ∧ Aside0 (Below w1.heap.size w1 wr)) (fun _ v31 _ => m.length - (intOf v31).toNat)
      case atStart => exact ⟨0, t, rfl, ⟨Nat.zero_le _⟩, ⟨rfl⟩, ⟨by have := htl.out; omega⟩, hta, HT, HB⟩
      case round =>
        obtain ⟨j, s, rfl, hj, hrs, hsl, hsa, HS, HBs⟩ := hrel
        have hjl := hj.out
        by_cases hjt : j < m.length
        · obtain ⟨ad2, A1, c1, rfl, y0, l1, g1⟩ := at_L4 (Kd.C_below G0.out HBs.out) (j : Int) (by omega) (by omega)
          rw [Int.toNat_natCast] at y0
          obtain ⟨r, hrd⟩ : ∃ r, r = rd_L4 m (j : Int) := ⟨_, rfl⟩
          rw [← hrd] at y0 l1 g1
          have hrm : r ∈ m := by rw [hrd, rdL4_at' hjt]; exact List.getElem_mem _
          have hgr := HGm.out r hrm
          have hstep : Aside0 ((if (rowF r).2 = true then tabOf (stepR s (rowF r).1) (m.drop (j + 1)) else none) = tabOf t m) := ⟨by
            rw [← hrs.out, List.drop_eq_getElem_cons hjt, ← rdL4_at' hjt, ← hrd]
            rfl⟩
          have hr0 : 0 ≤ rd r 0 ∧ rd r 0 ≤ 255 := by
            have h0 : 0 < r.length := by have := hgr.1; omega
            have : rd r ((0 : Nat) : Int) = r[0] := by unfold rd; rw [Int.toNat_natCast, List.getD_eq_getElem?_getD, List.getElem?_eq_getElem h0]; rfl
            rw [show (0 : Int) = ((0 : Nat) : Int) from rfl, this]
            exact hgr.2.2 _ (List.getElem_mem h0)
          have hrl1 := hgr.1
          have hrl2 := hgr.2.1
          obtain ⟨ad3, rfl, z0⟩ := Kd.at_int g1 0 (by omega) (by omega)
          have z0' : wr.cell? ad3 = some (.int .u8 (rd r 0)) := by
            rw [show (0 : Int).toNat = 0 from rfl] at z0
            have : ad3.add 0 = ad3 := by unfold Addr.add; rw [if_pos rfl]
            rwa [this] at z0
          clear z0
          obtain ⟨n, hn⟩ : ∃ n : Nat, (n : Int) = rd r 0 := ⟨(rd r 0).toNat, by omega⟩
          rw [← hn] at z0' hr0
          have hrf : Aside0 (rowF r = if n < 1 ∨ 20 < n ∨ r.length < n + 1 ∨ n + 21 < r.length then (z69, false) else (⟨strOfNums ((r.take (n + 1)).drop 1), strOfNums (r.drop (n + 1))⟩, true)) := ⟨by
            unfold rowF
            rw [← hn, Int.toNat_natCast]
            by_cases h : n < 1 ∨ 20 < n ∨ r.length < n + 1 ∨ n + 21 < r.length
            · rw [if_pos h, if_pos (by omega)]
            · rw [if_neg h, if_neg (by omega)]⟩
          have hfail : Aside0 ((n < 1 ∨ 20 < n ∨ r.length < n + 1 ∨ n + 21 < r.length) → recoverF b = ([], 0, 4)) := ⟨fun hbad => by
            have h1 := hstep.out
            rw [hrf.out, if_pos hbad, if_neg (by simp)] at h1
            have h2 := hst.out
            rw [recF_tab, ← h1] at h2
            rw [hres.out, ← h2]⟩
          have G1 := Aside0.mk g1
          clear hrd hrm hgr g1
          replace hn := Aside0.mk hn
          by_cases n1 : n = 0
          · have hno := Aside0.mk (hfail.out (.inl (by omega)))
            subst n1
            go_wp2
            go_ret3
            rw [hno.out]
            exact ⟨_, rfl, Kd.R_nil _ _ _ _ _, below_step HB1.out HBs.out⟩
          have n1' : ((n : Int) == 0) = false := by simpa using n1
          by_cases n2 : 20 < n
          · have hno := Aside0.mk (hfail.out (.inr (.inl n2)))
            have n2' : (20 : Int) < (n : Int) := by omega
            go_wp2
            go_ret3
            rw [hno.out]
            exact ⟨_, rfl, Kd.R_nil _ _ _ _ _, below_step HB1.out HBs.out⟩
          have n2' : ¬ (20 : Int) < (n : Int) := by omega
          by_cases n3 : r.length < n + 1
          · have hno := Aside0.mk (hfail.out (.inr (.inr (.inl n3))))
            have n3' : (r.length : Int) < (n : Int) + 1 := by omega
            go_wp2
            go_ret3
            rw [hno.out]
            exact ⟨_, rfl, Kd.R_nil _ _ _ _ _, below_step HB1.out HBs.out⟩
          have n3' : ¬ (r.length : Int) < (n : Int) + 1 := by omega
          by_cases n4 : n + 21 < r.length
          · have hno := Aside0.mk (hfail.out (.inr (.inr (.inr n4))))
            have n4' : (20 : Int) < (r.length : Int) - (n : Int) - 1 := by omega
            go_wp2
            go_ret3
            rw [hno.out]
            exact ⟨_, rfl, Kd.R_nil _ _ _ _ _, below_step HB1.out HBs.out⟩
          have n4' : ¬ (20 : Int) < (r.length : Int) - (n : Int) - 1 := by omega
          obtain ⟨k, hk⟩ : ∃ k, Aside0 (k = strOfNums ((r.take (n + 1)).drop 1)) := ⟨_, ⟨rfl⟩⟩
          obtain ⟨u, hu⟩ : ∃ u, Aside0 (u = strOfNums (r.drop (n + 1))) := ⟨_, ⟨rfl⟩⟩
          have hst2 : Aside0 (tabOf (stepR s ⟨k, u⟩) (m.drop (j + 1)) = tabOf t m) := ⟨by
            have h1 := hstep.out
            have e := hrf.out
            rw [if_neg (by omega), ← hk.out, ← hu.out] at e
            rw [e, if_pos rfl] at h1
            exact h1⟩
          have hm1 := Kd.C_mid (lo := 1) (hi := n + 1) (Kd.C_drew G1.out) (by omega) (by omega) l1
          rw [if_neg (show ¬ c1 = 1 by omega)] at hm1
          have hcv1 := Kd.C_string (P := Try.prog) (A := some (ad3.add 1)) (n := n) (c := c1 - 1) (xs := (r.take (n + 1)).drop 1) Try.underlying36 Try.underlying5 Try.underlying9 (by
            have := hm1
            rw [show ((r.take (n + 1)).drop 1).length = n by rw [List.length_drop, List.length_take]; omega] at this
            exact this)
          have hm2 := Kd.C_drop (m := n + 1) (c := c1) (Kd.C_drew G1.out) (by omega) l1
          have hcv2 := Kd.C_string (P := Try.prog) (n := r.length - (n + 1)) (c := c1 - (n + 1)) (xs := r.drop (n + 1)) Try.underlying36 Try.underlying5 Try.underlying9 (by
            have := hm2
            rw [List.length_drop] at this
            exact this)
          rw [← hk.out] at hcv1
          rw [← hu.out] at hcv2
          have ea1 : ad3.add 1 = ⟨ad3.block, ad3.off + 1, none⟩ := by unfold Addr.add; rw [if_neg (by omega)]
          have ea2 : ad3.add (n + 1) = ⟨ad3.block, ad3.off + (n + 1), none⟩ := by unfold Addr.add; rw [if_neg (by omega)]
          rw [ea1] at hcv1
          have hdv2 : (convert 36 9 (.slice (if c1 = n + 1 then some ad3 else some ⟨ad3.block, ad3.off + (n + 1), none⟩) (r.length - (n + 1)) (c1 - (n + 1)))).run Try.prog wr.drew = .ok (.string u) wr.drew := by
            have := hcv2
            rw [show (Kd.int .u8).sz = 1 from rfl, Nat.mul_one, Option.map_some, ea2] at this
            exact this
          clear hcv2 ea1 ea2 hm1 hm2
          obtain ⟨A8, c8, rfl⟩ := Kd.R_slice HS.out
          have hcall : Aside0 (Calls Try.prog 60 #[.slice A8 s.length c8, .agg #[.string k, .string u]] wr.drew fun e w' => ∃ v0_ : Value, e = .returned (v0_) ∧ k69.R 69 w' wr.heap.size (fun _ => True) v0_ (stepR s ⟨k, u⟩) ∧ Below wr.heap.size wr.drew w') := ⟨set_walk A8 c8 s ⟨k, u⟩ wr.drew (Kd.C_drew (Kd.R_reads' HS.out).2.2) (Kd.R_reads' HS.out).2.1 hsa.out (by have := hsl.out; omega)⟩
          have a1 : (1 : Int) ≤ (n : Int) + 1 := by omega
          have a2 : (n : Int) + 1 ≤ (r.length : Int) := by omega
          have a3 : (0 : Int) ≤ (n : Int) + 1 := by omega
          have a4 : IntKind.i64.wrap (1 + (n : Int)) = (n : Int) + 1 := (IntWalk.i64_in _ (by omega)).trans (by omega)
          have a5 : ((n : Int) + 1).toNat = n + 1 := by omega
          have a6 : ¬ c1 = 1 := by omega
          have a7 : n + 1 ≤ c1 := by omega
          have a8 : (n : Int) + 1 ≤ (c1 : Int) := by omega
          go_wp2
          go_still_tail 12, (by kernel_rfl)
          change wpList _ _ _ _ _ wr.drew
          have hbd : Aside0 (Below w1.heap.size w1 wr.drew) := ⟨below_drew HBs.out⟩
          have hsz : wr.heap.size = wr.drew.heap.size := rfl
          rw [hsz] at hcall
          clear hcv1 hdv2 hsz
          generalize wr.drew = w2 at hcall hbd ⊢
          go_wp2_with (go_at_call 60; refine hcall.out.mono ?_; rintro e w3 ⟨v3, rfl, ho, hbl⟩; have HS3 := Aside0.mk (Kd.R_lower ho hbd.out.size); have HB3 := Aside0.mk (below_step hbd.out hbl); clear ho hbl)
          all_goals exact ⟨⟨j + 1, _, by simp, ⟨hjt⟩, hst2, ⟨by have := hsl.out; have := stepR_len s ⟨k, u⟩; omega⟩, ⟨stepR_asc s hsa.out _⟩, HS3, HB3⟩, by simp [intOf]; omega⟩
        · have hro : Aside0 (tabOf t m = some s) := ⟨by have := hrs.out; rw [List.drop_of_length_le (by omega)] at this; exact this.symm⟩
          obtain ⟨A8, c8, rfl⟩ := Kd.R_slice HS.out
          have hst2 : Aside0 ((if 40 < s.length then none else recF s (bs.drop (i + 1))) = recF [] bs) := ⟨by
            have h2 := hst.out
            rw [recF_tab, hro.out] at h2
            exact h2⟩
          by_cases h40 : 40 < s.length
          · have hno : Aside0 (recoverF b = ([], 0, 4)) := ⟨by
              have h2 := hst2.out
              rw [if_pos h40] at h2
              rw [hres.out, ← h2]⟩
            go_wp2
            go_ret3
            rw [hno.out]
            exact ⟨_, rfl, Kd.R_nil _ _ _ _ _, below_step HB1.out HBs.out⟩
          · have hst3 : Aside0 (recF s (bs.drop (i + 1)) = recF [] bs) := ⟨by have := hst2.out; rw [if_neg h40] at this; exact this⟩
            go_wp2
            go_roundw
            case rel => exact ⟨i + 1, s, by simp, ⟨hlt⟩, hst3, ⟨by omega⟩, hsa, HS, HBs⟩
            case measure => simp [intOf]; omega
    · have hyes : Aside0 (recoverF b = (t, (used : Int), 0)) := ⟨by
        have h2 := hs.out
        rw [List.drop_of_length_le (by omega)] at h2
        rw [recF_nil] at h2
        rw [hres.out, ← h2]⟩
      go_wp2
      go_ret3
      rw [hyes.out]
      exact ⟨_, rfl, Kd.R_lower HT.out HB1.out.size, below_step HB1.out HB.out⟩
end Go.Proofs.Ytnjidfgjldkkcaa.Q
/- store.Recover answers as the reference does, for all bytes; no condition. -/
namespace Go.Proofs.Ytnjidfgjldkkcaa.Pure
open Go.RowKit Go.Proofs.Ytnjidfgjldkkcaa.Q Go.Proofs.YtnjidfgjldkkcaaW.PrintWords Go.Proofs.Ytnjidfgjldkkcaa.Plain
theorem recF_len : ∀ (bs : List (List (List Int))) (t t' : List S69), t.length ≤ 40 → recF t bs = some t' → t'.length ≤ 40
  | [], t, t', h, e => by rw [recF_nil] at e; obtain rfl := Option.some.inj e; exact h
  | m :: rest, t, t', h, e => by
    rw [recF_cons] at e
    cases hm : rowsOf [] m with
    | none => rw [hm] at e; cases e
    | some cs =>
      rw [hm] at e
      replace e : (if 40 < (changedF t cs).length then none else recF (changedF t cs) rest) = some t' := e
      by_cases h4 : 40 < (changedF t cs).length
      · rw [if_pos h4] at e; cases e
      · rw [if_neg h4] at e
        exact recF_len rest _ t' (by omega) e
theorem readS_len (b : List Int) : (readS b).1.length ≤ 40 := by
  unfold readS
  cases h : recF [] (readF b (b.length + 1) [] [] 0 0).1 with
  | none => simp
  | some t => exact recF_len _ [] t (by simp) h
theorem recoverF_len (b : List Int) : (recoverF b).1.length ≤ 40 := by
  unfold recoverF
  split
  · simp
  · exact readS_len b
theorem sameRows_walk (A B : Option Addr) (c d : Nat) (l : List S69) (w : World) (hx : Kd.C k69 w A l.length l) (hc : l.length ≤ c) (hy : Kd.C k69 w B l.length l) (hd : l.length ≤ d) (hl : l.length ≤ 1000000) :
    Calls Try.prog 24 #[.slice A l.length c, .slice B l.length d] w fun e w' => e = .returned (.bool true) ∧ Drawn0 w w' := by
  obtain ⟨n, hn⟩ := (same_ev l hl).rounds
  exact bagnalllaw_sameRows.calls n A c l B d l true w hx hc hy hd hn
theorem byteWf {z : Int} (h : (Lit.int .u8 z).wf = true) : 0 ≤ z ∧ z ≤ 255 := by
  simp [Lit.wf, show IntKind.u8.min = 0 from rfl, show IntKind.u8.max = 255 from rfl] at h
  omega
set_option maxRecDepth 100000 in
set_option maxHeartbeats 8000000 in
theorem walkStoreRecovers (W : World) (l : List Int) (A : Option Addr) (c : Nat) (hc : l.length ≤ c) (C : Kd.C (Kd.int .u8) W A l.length l)
    (ok : l.length ≤ 9223372036854775807 ∧ l.length * Try.prog.bytesOf 5 ≤ 140737488351232 ∧ ∀ y ∈ l, (Lit.int .u8 y).wf = true) :
    Calls Try.prog 12 #[.slice A l.length c] W fun e w' => e = .returned (.bool true) ∧ Below W.heap.size W w' := by
  have hb : ∀ x ∈ l, 0 ≤ x ∧ x ≤ 255 := fun x hx => byteWf (ok.2.2 x hx)
  have H1 := Aside0.mk (recover_walk A c l W C hc hb)
  have H2 : Aside0 (∀ w, Below W.heap.size W w → Calls Try.prog 37 #[.slice A l.length c] w (ReadEnd w (recoverF l))) := ⟨fun w hw => refRecover_walk A c l w (Kd.C_below C hw) hc hb⟩
  have hlen := Aside0.mk (recoverF_len l)
  obtain ⟨q, hq⟩ : ∃ q, q = recoverF l := ⟨_, rfl⟩
  rw [← hq] at H1 H2 hlen
  obtain ⟨t, u, e⟩ := q
  clear hq hb C ok
  go_enter Try.func12, Try.ntmps12
  go_wp2_with (first | (go_at_call 36; refine H1.out.mono ?_; rintro e w1 ⟨v1, rfl, ho, hb⟩; obtain ⟨A1, c1, rfl⟩ := Kd.R_slice ho; have HO1 := Aside0.mk ho; have HB1 := Aside0.mk hb; clear ho hb) | (go_at_call 37; refine (H2.out _ HB1.out).mono ?_; rintro e w2 ⟨v2, rfl, ho, hb⟩; obtain ⟨A2, c2, rfl⟩ := Kd.R_slice ho; have HO2 := Aside0.mk ho; have HO1' := Aside0.mk (Kd.R_below HO1.out hb); have HB2 := Aside0.mk (below_step HB1.out hb); clear ho hb) | (go_at_call 24; refine (sameRows_walk A1 A2 c1 c2 t _ (Kd.R_reads' HO1'.out).2.2 (Kd.R_reads' HO1'.out).2.1 (Kd.R_reads' HO2.out).2.2 (Kd.R_reads' HO2.out).2.1 (by have h_ : t.length ≤ 40 := hlen.out; omega)).mono ?_; rintro e w3 ⟨rfl, hd⟩; have HB3 := Aside0.mk (below_step HB2.out hd.below); clear hd))
  go_ret
  exact ⟨by simp, HB3.out⟩
end Go.Proofs.Ytnjidfgjldkkcaa.Pure
