/- Texts of this claim, laid together: QPc1, QBs, QCl, QCh, Ev, PlRows, QFt, QWr, QCb, QWd, QBu, QDk, QRw, QRe, QSm, QSn, PlStr, PlSort, QRa3, QNx1, QRn, QNl1, PureRowsNexts. -/
import Derived.LoopTactic
import Derived.Lib.Hide
import Derived.RowKit3
import Derived.Lib.SliceRun
import Derived.WalkSpells
import Derived.Test.YtnjidfgjldkkcaaWWords
import Derived.Laws.Strings
import Derived.Deep.QuietTactic
import Derived.BigQuiet
import Derived.Deep.RegionHeld3
import Derived.Laws.Cover3
import Derived.ChangeKeysEq
import Derived.StillTailTactics
import Derived.IntWalk
import Derived.WideShapes
import Derived.Lib.LazyBuf
import Derived.Laws.AppendOwn
import Derived.Test.YtnjidfgjldkkcaaMStorePlays1
-- Written for this seat by a program of its session (xp.py over the kit's printer).
namespace Go.Proofs.Ytnjidfgjldkkcaa.Q
open Go.RowKit Go.Proofs.YtnjidfgjldkkcaaW.PrintWords Go.Proofs.YtnjidfgjldkkcaaW.PrintLast Go.Proofs.YtnjidfgjldkkcaaW.PrintMore
attribute [local go_sem] max2_int min2_int max_two min_two max_three min_three max_four min_four xq_geq xq_leq xq_gtr   -- for this text's walks alone
set_option linter.unusedVariables false
set_option linter.unusedSimpArgs false

/-! ### cmp_isNaN_string: function 93 -/
def cmp_isNaN_string.f (a0 : ByteArray) : Option (Bool) := some (a0.toList != a0.toList)
set_option maxHeartbeats 8000000 in
set_option maxRecDepth 100000 in
theorem cmp_isNaN_string.calls (a0 : ByteArray) (r : Bool) (w : World) (h : cmp_isNaN_string.f a0 = some r) :
    Calls Try.prog 93 #[.string a0] w fun e w' => e = .returned (.bool r) ∧ Drawn0 w w' := by
  have H : (some (a0.toList != a0.toList)) = some r := h
  clear h
  obtain rfl := Option.some.inj H
  go_enter Try.func93, Try.ntmps93
  go_wp2
  go_ret
  exact ⟨by first | rfl | (simp; done) | (simp [*]; done), by repeat (first | exact Drawn0.refl _ | apply Drawn0.step)⟩

/-! ### cmp_Compare_string: function 82 -/
def cmp_Compare_string.f (a0 : ByteArray) (a1 : ByteArray) : Option (Int) := (cmp_isNaN_string.f a0).bind fun t101 => ((cmp_isNaN_string.f a1).bind fun t102 => (if t101 = true then (if t102 = true then (some 0) else (some (-1))) else (if t102 = true then (some 1) else (if (Op.bytesLess a0.toList a1.toList) = true then (some (-1)) else (if (Op.bytesLess a1.toList a0.toList) = true then (some 1) else (some 0))))))
set_option maxHeartbeats 8000000 in
set_option maxRecDepth 100000 in
theorem cmp_Compare_string.calls (a0 : ByteArray) (a1 : ByteArray) (r : Int) (w : World) (h : cmp_Compare_string.f a0 a1 = some r) :
    Calls Try.prog 82 #[.string a0, .string a1] w fun e w' => e = .returned (.int .i64 r) ∧ Drawn0 w w' := by
  have H : ((cmp_isNaN_string.f a0).bind fun t101 => ((cmp_isNaN_string.f a1).bind fun t102 => (if t101 = true then (if t102 = true then (some 0) else (some (-1))) else (if t102 = true then (some 1) else (if (Op.bytesLess a0.toList a1.toList) = true then (some (-1)) else (if (Op.bytesLess a1.toList a0.toList) = true then (some 1) else (some 0))))))) = some r := h
  clear h
  replace H := Option.bind_eq_some_iff.mp H
  obtain ⟨t101, A30, H⟩ := H
  replace H : ((cmp_isNaN_string.f a1).bind fun t102 => (if t101 = true then (if t102 = true then (some 0) else (some (-1))) else (if t102 = true then (some 1) else (if (Op.bytesLess a0.toList a1.toList) = true then (some (-1)) else (if (Op.bytesLess a1.toList a0.toList) = true then (some 1) else (some 0)))))) = some r := H
  have A3 := Aside0.mk A30
  clear A30
  replace H := Option.bind_eq_some_iff.mp H
  obtain ⟨t102, A40, H⟩ := H
  replace H : (if t101 = true then (if t102 = true then (some 0) else (some (-1))) else (if t102 = true then (some 1) else (if (Op.bytesLess a0.toList a1.toList) = true then (some (-1)) else (if (Op.bytesLess a1.toList a0.toList) = true then (some 1) else (some 0))))) = some r := H
  have A4 := Aside0.mk A40
  clear A40
  by_cases c5 : t101 = true
  · subst c5
    have H1 : (if t102 = true then (some 0) else (some (-1))) = some r := by rw [if_pos rfl] at H; exact H
    clear H
    have H := H1
    clear H1
    by_cases c6 : t102 = true
    · subst c6
      have H1 : (some 0) = some r := by rw [if_pos rfl] at H; exact H
      clear H
      have H := H1
      clear H1
      obtain rfl := Option.some.inj H
      go_enter Try.func82, Try.ntmps82
      go_wp2_with (first | ((with_reducible refine gate_callee (f := 93) rfl ?_); refine goesL_ (some 8) rfl rfl Try.func93 (by kernel_rfl) rfl #[.string a0] rfl (by (try simp only [List.map_toArray, List.map_cons, List.map_nil]); first | done | rfl | (simp only [List.length_drop, List.length_take]; rfl)) ?_; (with_reducible refine (cmp_isNaN_string.calls a0 true _ A3.out).mono ?_); rintro e w' ⟨rfl, ⟨nd, rfl⟩⟩; refine ⟨_, rfl, ?_⟩) | ((with_reducible refine gate_callee (f := 93) rfl ?_); refine goesL_ (some 10) rfl rfl Try.func93 (by kernel_rfl) rfl #[.string a1] rfl (by (try simp only [List.map_toArray, List.map_cons, List.map_nil]); first | done | rfl | (simp only [List.length_drop, List.length_take]; rfl)) ?_; (with_reducible refine (cmp_isNaN_string.calls a1 true _ A4.out).mono ?_); rintro e w' ⟨rfl, ⟨nd, rfl⟩⟩; refine ⟨_, rfl, ?_⟩))
      go_ret
      exact ⟨by first | rfl | (simp; done) | (simp [*]; done), by repeat (first | exact Drawn0.refl _ | apply Drawn0.step)⟩
    · replace c6 := Bool.eq_false_iff.mpr c6
      subst c6
      have H1 : (some (-1)) = some r := by rw [if_neg (show ¬ (false = true) by decide)] at H; exact H
      clear H
      have H := H1
      clear H1
      obtain rfl := Option.some.inj H
      go_enter Try.func82, Try.ntmps82
      go_wp2_with (first | ((with_reducible refine gate_callee (f := 93) rfl ?_); refine goesL_ (some 8) rfl rfl Try.func93 (by kernel_rfl) rfl #[.string a0] rfl (by (try simp only [List.map_toArray, List.map_cons, List.map_nil]); first | done | rfl | (simp only [List.length_drop, List.length_take]; rfl)) ?_; (with_reducible refine (cmp_isNaN_string.calls a0 true _ A3.out).mono ?_); rintro e w' ⟨rfl, ⟨nd, rfl⟩⟩; refine ⟨_, rfl, ?_⟩) | ((with_reducible refine gate_callee (f := 93) rfl ?_); refine goesL_ (some 10) rfl rfl Try.func93 (by kernel_rfl) rfl #[.string a1] rfl (by (try simp only [List.map_toArray, List.map_cons, List.map_nil]); first | done | rfl | (simp only [List.length_drop, List.length_take]; rfl)) ?_; (with_reducible refine (cmp_isNaN_string.calls a1 false _ A4.out).mono ?_); rintro e w' ⟨rfl, ⟨nd, rfl⟩⟩; refine ⟨_, rfl, ?_⟩))
      go_ret
      exact ⟨by first | rfl | (simp; done) | (simp [*]; done), by repeat (first | exact Drawn0.refl _ | apply Drawn0.step)⟩
  · replace c5 := Bool.eq_false_iff.mpr c5
    subst c5
    have H1 : (if t102 = true then (some 1) else (if (Op.bytesLess a0.toList a1.toList) = true then (some (-1)) else (if (Op.bytesLess a1.toList a0.toList) = true then (some 1) else (some 0)))) = some r := by rw [if_neg (show ¬ (false = true) by decide)] at H; exact H
    clear H
    have H := H1
    clear H1
    by_cases c7 : t102 = true
    · subst c7
      have H1 : (some 1) = some r := by rw [if_pos rfl] at H; exact H
      clear H
      have H := H1
      clear H1
      obtain rfl := Option.some.inj H
      go_enter Try.func82, Try.ntmps82
      go_wp2_with (first | ((with_reducible refine gate_callee (f := 93) rfl ?_); refine goesL_ (some 8) rfl rfl Try.func93 (by kernel_rfl) rfl #[.string a0] rfl (by (try simp only [List.map_toArray, List.map_cons, List.map_nil]); first | done | rfl | (simp only [List.length_drop, List.length_take]; rfl)) ?_; (with_reducible refine (cmp_isNaN_string.calls a0 false _ A3.out).mono ?_); rintro e w' ⟨rfl, ⟨nd, rfl⟩⟩; refine ⟨_, rfl, ?_⟩) | ((with_reducible refine gate_callee (f := 93) rfl ?_); refine goesL_ (some 10) rfl rfl Try.func93 (by kernel_rfl) rfl #[.string a1] rfl (by (try simp only [List.map_toArray, List.map_cons, List.map_nil]); first | done | rfl | (simp only [List.length_drop, List.length_take]; rfl)) ?_; (with_reducible refine (cmp_isNaN_string.calls a1 true _ A4.out).mono ?_); rintro e w' ⟨rfl, ⟨nd, rfl⟩⟩; refine ⟨_, rfl, ?_⟩))
      go_ret
      exact ⟨by first | rfl | (simp; done) | (simp [*]; done), by repeat (first | exact Drawn0.refl _ | apply Drawn0.step)⟩
    · replace c7 := Bool.eq_false_iff.mpr c7
      subst c7
      have H1 : (if (Op.bytesLess a0.toList a1.toList) = true then (some (-1)) else (if (Op.bytesLess a1.toList a0.toList) = true then (some 1) else (some 0))) = some r := by rw [if_neg (show ¬ (false = true) by decide)] at H; exact H
      clear H
      have H := H1
      clear H1
      by_cases c8 : (Op.bytesLess a0.toList a1.toList) = true
      · rw [if_pos c8] at H
        have c8b0 : (Op.bytesLess a0.toList a1.toList) = true := c8
        clear c8
        obtain rfl := Option.some.inj H
        go_enter Try.func82, Try.ntmps82
        go_wp2_with (first | ((with_reducible refine gate_callee (f := 93) rfl ?_); refine goesL_ (some 8) rfl rfl Try.func93 (by kernel_rfl) rfl #[.string a0] rfl (by (try simp only [List.map_toArray, List.map_cons, List.map_nil]); first | done | rfl | (simp only [List.length_drop, List.length_take]; rfl)) ?_; (with_reducible refine (cmp_isNaN_string.calls a0 false _ A3.out).mono ?_); rintro e w' ⟨rfl, ⟨nd, rfl⟩⟩; refine ⟨_, rfl, ?_⟩) | ((with_reducible refine gate_callee (f := 93) rfl ?_); refine goesL_ (some 10) rfl rfl Try.func93 (by kernel_rfl) rfl #[.string a1] rfl (by (try simp only [List.map_toArray, List.map_cons, List.map_nil]); first | done | rfl | (simp only [List.length_drop, List.length_take]; rfl)) ?_; (with_reducible refine (cmp_isNaN_string.calls a1 false _ A4.out).mono ?_); rintro e w' ⟨rfl, ⟨nd, rfl⟩⟩; refine ⟨_, rfl, ?_⟩))
        go_ret
        exact ⟨by first | rfl | (simp; done) | (simp [*]; done), by repeat (first | exact Drawn0.refl _ | apply Drawn0.step)⟩
      · rw [if_neg c8] at H
        have c8b0 : (Op.bytesLess a0.toList a1.toList) = false := by simpa using c8
        clear c8
        by_cases c9 : (Op.bytesLess a1.toList a0.toList) = true
        · rw [if_pos c9] at H
          have c9b0 : (Op.bytesLess a1.toList a0.toList) = true := c9
          clear c9
          obtain rfl := Option.some.inj H
          go_enter Try.func82, Try.ntmps82
          go_wp2_with (first | ((with_reducible refine gate_callee (f := 93) rfl ?_); refine goesL_ (some 8) rfl rfl Try.func93 (by kernel_rfl) rfl #[.string a0] rfl (by (try simp only [List.map_toArray, List.map_cons, List.map_nil]); first | done | rfl | (simp only [List.length_drop, List.length_take]; rfl)) ?_; (with_reducible refine (cmp_isNaN_string.calls a0 false _ A3.out).mono ?_); rintro e w' ⟨rfl, ⟨nd, rfl⟩⟩; refine ⟨_, rfl, ?_⟩) | ((with_reducible refine gate_callee (f := 93) rfl ?_); refine goesL_ (some 10) rfl rfl Try.func93 (by kernel_rfl) rfl #[.string a1] rfl (by (try simp only [List.map_toArray, List.map_cons, List.map_nil]); first | done | rfl | (simp only [List.length_drop, List.length_take]; rfl)) ?_; (with_reducible refine (cmp_isNaN_string.calls a1 false _ A4.out).mono ?_); rintro e w' ⟨rfl, ⟨nd, rfl⟩⟩; refine ⟨_, rfl, ?_⟩))
          go_ret
          exact ⟨by first | rfl | (simp; done) | (simp [*]; done), by repeat (first | exact Drawn0.refl _ | apply Drawn0.step)⟩
        · rw [if_neg c9] at H
          have c9b0 : (Op.bytesLess a1.toList a0.toList) = false := by simpa using c9
          clear c9
          obtain rfl := Option.some.inj H
          go_enter Try.func82, Try.ntmps82
          go_wp2_with (first | ((with_reducible refine gate_callee (f := 93) rfl ?_); refine goesL_ (some 8) rfl rfl Try.func93 (by kernel_rfl) rfl #[.string a0] rfl (by (try simp only [List.map_toArray, List.map_cons, List.map_nil]); first | done | rfl | (simp only [List.length_drop, List.length_take]; rfl)) ?_; (with_reducible refine (cmp_isNaN_string.calls a0 false _ A3.out).mono ?_); rintro e w' ⟨rfl, ⟨nd, rfl⟩⟩; refine ⟨_, rfl, ?_⟩) | ((with_reducible refine gate_callee (f := 93) rfl ?_); refine goesL_ (some 10) rfl rfl Try.func93 (by kernel_rfl) rfl #[.string a1] rfl (by (try simp only [List.map_toArray, List.map_cons, List.map_nil]); first | done | rfl | (simp only [List.length_drop, List.length_take]; rfl)) ?_; (with_reducible refine (cmp_isNaN_string.calls a1 false _ A4.out).mono ?_); rintro e w' ⟨rfl, ⟨nd, rfl⟩⟩; refine ⟨_, rfl, ?_⟩))
          go_ret
          exact ⟨by first | rfl | (simp; done) | (simp [*]; done), by repeat (first | exact Drawn0.refl _ | apply Drawn0.step)⟩

/-! ### rows_place_1: function 81 -/
def rows_place_1.f (a0_0 : ByteArray) (a0_1 : ByteArray) (a1 : ByteArray) : Option (Int) := (cmp_Compare_string.f a0_0 a1).bind fun t104 => (some t104)
set_option maxHeartbeats 8000000 in
set_option maxRecDepth 100000 in
theorem rows_place_1.calls (a0_0 : ByteArray) (a0_1 : ByteArray) (a1 : ByteArray) (r : Int) (w : World) (h : rows_place_1.f a0_0 a0_1 a1 = some r) :
    Calls Try.prog 81 #[.agg #[.string a0_0, .string a0_1], .string a1] w fun e w' => e = .returned (.int .i64 r) ∧ Below w.heap.size w w' := by
  have hu69 := Try.underlying69
  have HB := Aside0.mk (Below.refl w.heap.size w)
  have H : ((cmp_Compare_string.f a0_0 a1).bind fun t104 => (some t104)) = some r := h
  clear h
  replace H := Option.bind_eq_some_iff.mp H
  obtain ⟨t104, A30, H⟩ := H
  replace H : (some t104) = some r := H
  have A3 := Aside0.mk A30
  clear A30
  obtain rfl := Option.some.inj H
  go_enter Try.func81, Try.ntmps81
  go_wp2_with (first | ((with_reducible refine gate_dst (N := 2) rfl ?_); refine box_event ?hg (N := 2) ?hd (cs := #[.string a0_0, .string a0_1]) (t := 69) ?hr ?_; (case hd => rfl); (case hg => rfl); (case hr => first | (go_simp; done) | (go_simp; rfl)); intro gb103 hg w4 hbox hb; have n0_ := Aside0.mk (below_step (by repeat (first | (with_reducible first | exact HB.out | apply below_alloc | apply pw_below_drewN | apply below_drew1) | exact HB.out)) hb); have n1_ := Aside0.mk (hbox); have n2_ := Aside0.mk ((by rw [hg]; exact (below_size (by repeat (first | (with_reducible first | exact HB.out | apply below_alloc | apply pw_below_drewN | apply below_drew1) | exact HB.out))) : w.heap.size ≤ gb103)); have n3_ := Aside0.mk ((by rw [hg]; exact (below_size (by repeat (first | (with_reducible first | exact HB.out | apply below_alloc | apply pw_below_drewN | apply below_drew1) | exact HB.out))) : w.heap.size ≤ gb103)); clear HB; have HB := n0_; have BK103 := n1_; have GW103 := n2_; have GE103 := n3_; clear n0_ n1_ n2_ n3_; clear hb hbox hg; have hcz5_0 : w4.cell? ⟨gb103, 0, none⟩ = some (.string a0_0) := (blk_cell BK103.out 0).trans rfl; have hcz5_1 : w4.cell? ⟨gb103, 1, none⟩ = some (.string a0_1) := (blk_cell BK103.out 1).trans rfl; have hfz5_0 := blk_frozen BK103.out 0; have hfz5_1 := blk_frozen BK103.out 1) | ((with_reducible refine gate_callee (f := 82) rfl ?_); refine goesL_ (some 8) rfl rfl Try.func82 (by kernel_rfl) rfl #[.string a0_0, .string a1] rfl (by (try simp only [List.map_toArray, List.map_cons, List.map_nil]); first | done | rfl | (simp only [List.length_drop, List.length_take]; rfl)) ?_; (with_reducible refine (cmp_Compare_string.calls a0_0 a1 t104 _ A3.out).mono ?_); rintro e w' ⟨rfl, ⟨nd, rfl⟩⟩; refine ⟨_, rfl, ?_⟩))
  go_ret
  exact ⟨by first | rfl | (simp [errW_none, errW_some] <;> rfl) | (simp [*, errW_none, errW_some] <;> rfl), by repeat (first | (with_reducible first | exact HB.out | apply below_alloc | apply pw_below_drewN | apply below_drew1 | refine below_set ?_ GE103.out) | exact HB.out)⟩

end Go.Proofs.Ytnjidfgjldkkcaa.Q
/- slices.BinarySearchFunc at rows and rows.place's own comparison, walked; rows.place. -/
namespace Go.Proofs.Ytnjidfgjldkkcaa.Q
open Go.RowKit Go.Proofs.YtnjidfgjldkkcaaW.PrintWords Go.Proofs.YtnjidfgjldkkcaaW.PrintLast Go.Proofs.YtnjidfgjldkkcaaW.PrintMore
def cmpS (a k : ByteArray) : Int := if Op.bytesLess a.toList k.toList = true then -1 else if Op.bytesLess k.toList a.toList = true then 1 else 0
theorem place_1_f (a b k : ByteArray) : rows_place_1.f a b k = some (cmpS a k) := by
  unfold rows_place_1.f cmp_Compare_string.f cmp_isNaN_string.f cmpS
  simp only [bne_self_eq_false, Option.bind_some, Bool.false_eq_true, if_false]
  split
  · rfl
  · split <;> rfl
/-- The binary search: f rounds at most. -/
def bs (less : Nat → Bool) : Nat → Nat → Nat → Nat
  | 0, i, _ => i
  | f + 1, i, j => if i < j then (if less ((i + j) / 2) = true then bs less f ((i + j) / 2 + 1) j else bs less f i ((i + j) / 2)) else i
theorem bs_fuel (less : Nat → Bool) : ∀ (f g i j : Nat), j - i ≤ f → j - i ≤ g → bs less f i j = bs less g i j
  | 0, 0, _, _, _, _ => rfl
  | 0, g + 1, i, j, h, _ => by unfold bs; rw [if_neg (by omega)]
  | f + 1, 0, i, j, _, h => by unfold bs; rw [if_neg (by omega)]
  | f + 1, g + 1, i, j, h1, h2 => by
    unfold bs
    by_cases hij : i < j
    · rw [if_pos hij, if_pos hij, bs_fuel less f g _ j (by omega) (by omega), bs_fuel less f g i _ (by omega) (by omega)]
    · rw [if_neg hij, if_neg hij]
def lessAt (l : List S69) (k : ByteArray) (i : Nat) : Bool := decide (cmpS (l.getD i z69).f0 k < 0)
def placeI (l : List S69) (k : ByteArray) : Nat := bs (lessAt l k) l.length 0 l.length
def placeB (l : List S69) (k : ByteArray) : Bool := decide (placeI l k < l.length) && decide (cmpS (l.getD (placeI l k) z69).f0 k = 0)
set_option maxRecDepth 100000 in
set_option maxHeartbeats 4000000 in
theorem bsf_walk (A : Option Addr) (c : Nat) (l : List S69) (k : ByteArray) (w : World) (hr : Kd.C k69 w A l.length l) (hc : l.length ≤ c) (hl : l.length ≤ 1000000000) :
    Calls Try.prog 80 #[.slice A l.length c, .string k, .func (Fn.func 81) #[] #[]] w fun e w' => e = .returned (.tuple #[.int .i64 (placeI l k : Int), .bool (placeB l k)]) ∧ Below w.heap.size w w' := by
  have HR := Aside0.mk hr
  have HC := Aside0.mk hc
  clear hr hc
  go_enter Try.func80, Try.ntmps80
  go_wp2
  go_loopw [9, 10] (fun vi vj wr => ∃ i j : Nat, vi = .int .i64 i ∧ vj = .int .i64 j ∧ Aside0 (i ≤ j) ∧ Aside0 (j ≤ l.length) ∧ Aside0 (bs (lessAt l k) (j - i) i j = placeI l k) ∧ Aside0 (Below w.heap.size w wr)) (fun vi vj _ => (intOf vj).toNat - (intOf vi).toNat)
  case atStart => exact ⟨0, l.length, rfl, rfl, ⟨Nat.zero_le _⟩, ⟨Nat.le_refl _⟩, ⟨rfl⟩, ⟨Below.refl _ _⟩⟩
  case round =>
    obtain ⟨i, j, rfl, rfl, hij, hj, hbs, HB⟩ := hrel
    have hij' := hij.out
    have hj' := hj.out
    by_cases hlt : i < j
    · obtain ⟨h, hh⟩ : ∃ h, Aside0 (h = (i + j) / 2) := ⟨_, ⟨rfl⟩⟩
      have hdiv : ((i : Int) + (j : Int)) / 2 = (h : Int) := by have := hh.out; omega
      have hh1 : h < j := by have := hh.out; omega
      have hh2 : i ≤ h := by have := hh.out; omega
      obtain ⟨ad, rfl, hc0, hc1⟩ := at_T69 (Kd.C_below HR.out HB.out) (h : Int) (by omega) (by omega)
      have HL := Aside0.mk (show l.getD h z69 = rd_T69 l (h : Int) from rfl)
      generalize rd_T69 l (h : Int) = r at *
      obtain ⟨ra, rb⟩ := r
      simp only [Int.toNat_natCast] at hc0 hc1
      have hless : Aside0 (lessAt l k h = decide (cmpS ra k < 0)) := ⟨by unfold lessAt; rw [HL.out]⟩
      have hstep : Aside0 ((if lessAt l k h = true then bs (lessAt l k) (j - (h + 1)) (h + 1) j else bs (lessAt l k) (h - i) i h) = placeI l k) := ⟨by
        rw [← hbs.out]
        obtain ⟨f, hf⟩ : ∃ f, j - i = f + 1 := ⟨j - i - 1, by omega⟩
        rw [hf]
        conv => rhs; unfold bs
        rw [if_pos hlt, ← hh.out, bs_fuel _ (j - (h + 1)) f _ _ (by omega) (by omega), bs_fuel _ (h - i) f _ _ (by omega) (by omega)]⟩
      go_wp2_with (go_at_call 81; refine (rows_place_1.calls ra rb k (cmpS ra k) _ (place_1_f ra rb k)).mono ?_; rintro e w1 ⟨rfl, hb1⟩)
      · have HB1 := Aside0.mk (below_step HB.out hb1)
        have hneg : cmpS ra k < 0 := by assumption
        have hs : Aside0 (bs (lessAt l k) (j - (h + 1)) (h + 1) j = placeI l k) := ⟨by have := hstep.out; rw [hless.out, decide_eq_true hneg, if_pos rfl] at this; exact this⟩
        go_roundw
        case rel => exact ⟨h + 1, j, by go_num, rfl, ⟨by omega⟩, hj, hs, HB1⟩
        case measure => simp [intOf]; omega
      · have HB1 := Aside0.mk (below_step HB.out hb1)
        have hneg : 0 ≤ cmpS ra k := by assumption
        have hs : Aside0 (bs (lessAt l k) (h - i) i h = placeI l k) := ⟨by have := hstep.out; rw [hless.out, decide_eq_false (by omega), if_neg (by simp)] at this; exact this⟩
        go_roundw
        case rel => exact ⟨i, h, rfl, rfl, ⟨hh2⟩, ⟨by omega⟩, hs, HB1⟩
        case measure => simp [intOf]; omega
    · have hi : Aside0 (i = placeI l k) := ⟨by
        rw [← hbs.out, show j - i = 0 by omega]
        rfl⟩
      by_cases hlen : i < l.length
      · obtain ⟨ad, rfl, hc0, hc1⟩ := at_T69 (Kd.C_below HR.out HB.out) (i : Int) (by omega) (by omega)
        have HL := Aside0.mk (show l.getD i z69 = rd_T69 l (i : Int) from rfl)
        generalize rd_T69 l (i : Int) = r at *
        obtain ⟨ra, rb⟩ := r
        simp only [Int.toNat_natCast] at hc0 hc1
        have hB : Aside0 (placeB l k = (cmpS ra k == 0)) := ⟨by
          unfold placeB
          rw [← hi.out, HL.out, decide_eq_true hlen, Bool.true_and, Bool.eq_iff_iff, decide_eq_true_eq, beq_iff_eq]⟩
        clear HL hbs
        go_wp2_with (go_at_call 81; refine (rows_place_1.calls ra rb k (cmpS ra k) _ (place_1_f ra rb k)).mono ?_; rintro e w1 ⟨rfl, hb1⟩)
        have HB1 := Aside0.mk (below_step HB.out hb1)
        go_ret2
        refine ⟨?_, HB1.out⟩
        rw [hB.out, ← hi.out]
        rfl
      · have hB : Aside0 (placeB l k = false) := ⟨by
          unfold placeB
          rw [← hi.out, decide_eq_false hlen, Bool.false_and]⟩
        clear hbs
        go_wp2
        go_ret2
        refine ⟨?_, HB.out⟩
        rw [hB.out, ← hi.out]
        rfl

def rows_place.f (l : List S69) (k : ByteArray) : Option (Int × Bool) := if l.length ≤ 1000000000 then some ((placeI l k : Int), placeB l k) else none
theorem rows_place.calls (A0 : Option Addr) (c0 : Nat) (l0 : List S69) (a1 : ByteArray) (r1 : Int) (r2 : Bool) (w : World) (hr0 : Kd.C k69 w A0 l0.length l0) (hc0 : l0.length ≤ c0) (h : rows_place.f l0 a1 = some (r1, r2)) :
    Calls Try.prog 66 #[.slice A0 l0.length c0, .string a1] w fun e w' => e = .returned (.tuple #[.int .i64 r1, .bool r2]) ∧ Below w.heap.size w w' := by
  unfold rows_place.f at h
  split at h
  · rename_i hl
    obtain ⟨rfl, rfl⟩ := Prod.mk.inj (Option.some.inj h)
    go_enter Try.func66, Try.ntmps66
    go_wp2_with (go_at_call 80; refine (bsf_walk A0 c0 l0 a1 _ hr0 hc0 hl).mono ?_; rintro e w1 ⟨rfl, hb1⟩)
    go_ret2
    exact ⟨rfl, hb1⟩
  · cases h
end Go.Proofs.Ytnjidfgjldkkcaa.Q
/- slices.Clone at rows, walked. -/
namespace Go.Proofs.Ytnjidfgjldkkcaa.Q
open Go.RowKit Go.Proofs.YtnjidfgjldkkcaaW.PrintWords Go.Proofs.YtnjidfgjldkkcaaW.PrintLast Go.Proofs.YtnjidfgjldkkcaaW.PrintMore
theorem R_empty {α : Type} (d : Kd α) (e : TypeId) (w : World) : d.R e (w.alloc (.cells #[] e)) w.heap.size (fun _ => True) (.slice (some ⟨w.heap.size, 0, none⟩) 0 0) ([] : List α) := by
  refine ⟨fun _ _ => trivial, [], ?_, ?_⟩
  · have h2 := World.ownsRow_lit (base := w.heap.size) (e := e) (size := d.sz) w #[] 0 (Nat.le_refl _) (by simp [maxLen]) (by simp)
    simpa using h2
  · exact ⟨by simp, fun j p h => by simp at h⟩
theorem nil24 (w : World) (a : Option Addr) (n c : Nat) : (binOp .eql 24 (.slice a n c) (.slice none 0 0)).run Try.prog w = .ok (.bool a.isNone) w := Lib.run_eql_slice_nil w 24 69 a n c 0 0 Try.underlying24
attribute [local go_sem] nil24
def api_Row_67.f (l : List S69) : Option (List S69) := if l.length ≤ 1000000000 then some l else none
set_option maxRecDepth 100000 in
set_option maxHeartbeats 4000000 in
theorem api_Row_67.calls (A0 : Option Addr) (c0 : Nat) (l0 : List S69) (r : List S69) (w : World) (hr0 : Kd.C k69 w A0 l0.length l0) (hc0 : l0.length ≤ c0) (h : api_Row_67.f l0 = some r) :
    Calls Try.prog 67 #[.slice A0 l0.length c0] w fun e w' => ∃ v0_ : Value, e = .returned v0_ ∧ Kd.R k69 69 w' w.heap.size (fun _ => True) v0_ r ∧ Below w.heap.size w w' := by
  unfold api_Row_67.f at h
  split at h
  · rename_i hl
    obtain rfl := Option.some.inj h
    go_enter Try.func67, Try.ntmps67
    cases A0 with
    | none =>
      obtain ⟨h1, _, h3⟩ := hr0
      have hl0 : l0 = [] := by
        rcases Nat.eq_zero_or_pos l0.length with h0 | h0
        · exact List.eq_nil_of_length_eq_zero h0
        · obtain ⟨ad, h, _⟩ := h3 h0
          cases h
      subst hl0
      go_wp2
      go_ret
      exact ⟨.slice none 0 0, rfl, Kd.R_nil _ _ _ _ _, Below.refl _ _⟩
    | some ad =>
      have HR := Aside0.mk (Kd.C_below hr0 (below_alloc (Below.refl w.heap.size w) (.cells #[] 69)))
      have HB := Aside0.mk (below_alloc (Below.refl w.heap.size w) (.cells #[] 69))
      have HL := Aside0.mk hl
      clear hr0 hl
      go_wp2_with ((with_reducible refine gate_builtin (b := .append) (xs := #[.tmp 5, .tmp 6]) rfl ?_); at_builtin; refine Kd.R_append_rows k69 (w0 := w) w.heap.size rfl (.tmp 5) (.tmp 6) 24 69 (.agg #[(.string ⟨#[]⟩), (.string ⟨#[]⟩)]) 32 rfl Try.underlying24 info69 rfl (by decide) (by omega) _ [] l0 (some ad) l0.length c0 (fun _ => True) (fun _ => False) rfl rfl (R_empty k69 69 w) HR.out (fun x cs h => by rw [k69_open h]; exact k69_mkM _ _ _ x) (fun _ h => h.elim) (fun _ _ => trivial) HB.out (below_size HB.out) (by have := HL.out; simp only [List.length_nil]; omega) ?_; intro v1 w1 ho hb hg hat; replace ho := Aside0.mk ho; replace hb := Aside0.mk hb; clear hg hat)
      go_ret
      exact ⟨v1, rfl, ho.out, hb.out⟩
  · cases h
end Go.Proofs.Ytnjidfgjldkkcaa.Q
/- rows.Changed, walked. -/
namespace Go.Proofs.Ytnjidfgjldkkcaa.Q
open Go.RowKit Go.Proofs.YtnjidfgjldkkcaaW.PrintWords Go.Proofs.YtnjidfgjldkkcaaW.PrintLast Go.Proofs.YtnjidfgjldkkcaaW.PrintMore
/-- One change of a table. -/
def stepR (out : List S69) (c : S69) : List S69 :=
  if placeB out c.f0 = true then (if c.f1.toList = [] then out.eraseIdx (placeI out c.f0) else out.set (placeI out c.f0) c)
  else if c.f1.toList = [] then out else insRow out (placeI out c.f0) c
def changedF (l cs : List S69) : List S69 := cs.foldl stepR l
theorem bs_le (less : Nat → Bool) : ∀ (f i j : Nat), i ≤ j → bs less f i j ≤ j
  | 0, _, _, h => h
  | f + 1, i, j, h => by
    unfold bs
    by_cases hij : i < j
    · rw [if_pos hij]
      split
      · exact bs_le less f _ j (by omega)
      · have := bs_le less f i ((i + j) / 2) (by omega)
        omega
    · rw [if_neg hij]; exact h
theorem placeI_le (l : List S69) (k : ByteArray) : placeI l k ≤ l.length := bs_le _ _ _ _ (Nat.zero_le _)
theorem placeB_lt {l : List S69} {k : ByteArray} (h : placeB l k = true) : placeI l k < l.length := by
  unfold placeB at h
  rw [Bool.and_eq_true, decide_eq_true_eq] at h
  exact h.1
theorem stepR_len (out : List S69) (c : S69) : (stepR out c).length ≤ out.length + 1 := by
  unfold stepR
  repeat' split
  · rw [List.length_eraseIdx]; split <;> omega
  · rw [List.length_set]; omega
  · omega
  · rw [insRow_length _ _ _ (placeI_le _ _)]; omega
theorem changed_next {cs : List S69} {i : Nat} {out R : List S69} (h : changedF out (cs.drop i) = R) (hi : i < cs.length) : changedF (stepR out (rd_T69 cs (i : Int))) (cs.drop (i + 1)) = R := by
  have e : rd_T69 cs (i : Int) = cs[i] := by
    unfold rd_T69
    rw [Int.toNat_natCast, List.getD_eq_getElem?_getD, List.getElem?_eq_getElem hi]; rfl
  rw [← h, List.drop_eq_getElem_cons hi, e]
  rfl
theorem row_set {w : World} {base g c n : Nat} {xs : List S69} {i : Nat} {x : S69} (hR : k69.R 69 w base (fun _ => True) (.slice (some ⟨g, 0, none⟩) n c) xs) (hi : i < n) :
    k69.R 69 ((w.setCell ⟨g, i * 2, none⟩ (.string x.f0)).setCell ⟨g, i * 2 + 1, none⟩ (.string x.f1)) base (fun _ => True) (.slice (some ⟨g, 0, none⟩) n c) (xs.set i x) := by
  have hxn : xs.length = n := (Kd.R_reads' hR).1.symm
  obtain ⟨cur, hg, hh, hn, hm, hs, ht⟩ := row_slice hR
  obtain ⟨cur2, q1, q2, q3⟩ := setCells_row [Value.string x.f0, Value.string x.f1] (i * 2) w cur hh (by simp; omega)
  refine row_mk hg q1 (by rw [List.length_set, hxn]) hn hm (by omega) ?_
  have e : xs.set i x = xs.take i ++ x :: xs.drop (i + 1) := List.set_eq_take_append_cons_drop .. |>.trans (by rw [if_pos (by omega)])
  have e1 : cur.toList.take (i * 2) = (rowCells xs).take (i * 2) := by rw [← ht, List.take_take, Nat.min_eq_left (by omega)]
  have e2 : cur.toList.drop (i * 2 + 2) = (rowCells xs).drop ((i + 1) * 2) ++ cur.toList.drop (n * 2) := by
    have : cur.toList = rowCells xs ++ cur.toList.drop (n * 2) := by
      conv => lhs; rw [← List.take_append_drop (n * 2) cur.toList]
      rw [ht]
    conv => lhs; rw [this]
    rw [List.drop_append_of_le_length (by rw [rowCells_length]; omega), show i * 2 + 2 = (i + 1) * 2 by omega]
  have e3 : rowCells (xs.set i x) = (rowCells xs).take (i * 2) ++ [Value.string x.f0, Value.string x.f1] ++ (rowCells xs).drop ((i + 1) * 2) := by
    rw [e, rowCells_append, rowCells_take xs i (by omega), ← rowCells_drop xs (i + 1) (by omega), List.append_assoc]
    rfl
  rw [q3]
  show List.take _ (cur.toList.take (i * 2) ++ _ ++ cur.toList.drop (i * 2 + 2)) = _
  rw [e1, e2, e3, ← List.append_assoc]
  exact List.take_left' (by simp only [List.length_append, List.length_take, List.length_drop, List.length_cons, List.length_nil, rowCells_length]; omega)
set_option maxRecDepth 100000 in
set_option maxHeartbeats 8000000 in
theorem changed_walk (A B : Option Addr) (c d : Nat) (l cs : List S69) (w : World) (hr : Kd.C k69 w A l.length l) (hc : l.length ≤ c) (hq : Kd.C k69 w B cs.length cs) (hd : cs.length ≤ d) (hl : l.length + cs.length ≤ 900000) :
    Calls Try.prog 49 #[.slice A l.length c, .slice B cs.length d] w fun e w' => ∃ v', e = .returned v' ∧ k69.R 69 w' w.heap.size (fun _ => True) v' (changedF l cs) ∧ Below w.heap.size w w' := by
  have HR := Aside0.mk hr
  have HC := Aside0.mk hc
  have HQ := Aside0.mk hq
  have HD := Aside0.mk hd
  clear hr hc hq hd
  go_enter Try.func49, Try.ntmps49
  go_wp2_with (go_at_call 67; refine (api_Row_67.calls A c l l _ HR.out HC.out (by unfold api_Row_67.f; rw [if_pos (by omega)])).mono ?_; rintro e w1 ⟨v, rfl, ho, hb⟩; have HO1 := Aside0.mk ho; have HB1 := Aside0.mk hb; clear ho hb)
  go_loopw [5, 14] (fun v5 v14 wr => ∃ (i : Nat) (out : List S69), v14 = .int .i64 i ∧ Aside0 (i ≤ cs.length) ∧ Aside0 (changedF out (cs.drop i) = changedF l cs) ∧ Aside0 (out.length ≤ l.length + i) ∧ Aside0 (k69.R 69 wr w.heap.size (fun _ => True) v5 out) ∧ Aside0 (Below w.heap.size w wr)) (fun _ v14 _ => cs.length - (intOf v14).toNat)
  case atStart => exact ⟨0, l, rfl, ⟨Nat.zero_le _⟩, ⟨rfl⟩, ⟨Nat.le_refl _⟩, HO1, HB1⟩
  case round =>
    obtain ⟨i, out, rfl, hi, hs, hol, HO, HB⟩ := hrel
    have hil := hi.out
    by_cases hlt : i < cs.length
    · have hst := Aside0.mk (changed_next hs.out hlt)
      obtain ⟨ad, rfl, x0, x1⟩ := at_T69 (Kd.C_below HQ.out HB.out) (i : Int) (by omega) (by omega)
      obtain ⟨m, hm⟩ : ∃ m, m = rd_T69 cs (i : Int) := ⟨_, rfl⟩
      rw [← hm] at hst x0 x1
      rw [Int.toNat_natCast] at x0 x1
      obtain ⟨k, u⟩ := m
      obtain ⟨A5, c5, rfl⟩ := Kd.R_slice HO.out
      have hcap := Aside0.mk (Kd.R_reads' HO.out)
      obtain ⟨p, hp⟩ : ∃ p, Aside0 (p = placeI out k) := ⟨_, ⟨rfl⟩⟩
      obtain ⟨b, hb⟩ : ∃ b, Aside0 (b = placeB out k) := ⟨_, ⟨rfl⟩⟩
      have hcall : Aside0 (∀ W, Below wr.heap.size wr W → Calls Try.prog 66 #[.slice A5 out.length c5, .string k] W fun e w' => e = .returned (.tuple #[.int .i64 (p : Int), .bool b]) ∧ Below W.heap.size W w') := ⟨fun W hW => by
        have := rows_place.calls A5 c5 out k (p : Int) b W (Kd.C_below hcap.out.2.2 hW) hcap.out.2.1 (by unfold rows_place.f; rw [if_pos (by have := hol.out; omega), hp.out, hb.out])
        exact this⟩
      clear hm
      have hpl : p ≤ out.length := hp.out ▸ placeI_le out k
      have hol' := hol.out
      cases b
      · by_cases hu : u.toList = []
        · have hr : Aside0 (stepR out ⟨k, u⟩ = out) := ⟨by unfold stepR; rw [if_neg (by rw [← hb.out]; simp), if_pos hu]⟩
          rw [hr.out] at hst
          go_wp2_with (go_at_call 66; refine (hcall.out _ (by repeat (first | exact Below.refl _ _ | refine below_set ?_ (Nat.le_refl _) | apply below_alloc))).mono ?_; rintro e w3 ⟨rfl, hw⟩; have HW3 := Aside0.mk (below_step (below_alloc (Below.refl _ _) _ : Below wr.heap.size wr (wr.alloc (.cells #[.string k, .string u] 69))) hw); have z0 : w3.cell? ⟨wr.heap.size, 0, none⟩ = some (.string k) := (hw.cell (by simp)).trans (by rw [blk_cell (blk_new wr _)]; rfl); have z1 : w3.cell? ⟨wr.heap.size, 1, none⟩ = some (.string u) := (hw.cell (by simp)).trans (by rw [blk_cell (blk_new wr _)]; rfl); have HO3 := Aside0.mk (Kd.R_below HO.out HW3.out); have HB3 := Aside0.mk (below_step HB.out HW3.out); clear hw)
          all_goals exact ⟨⟨i + 1, out, by simp, ⟨hlt⟩, hst, ⟨by omega⟩, HO3, HB3⟩, by simp [intOf]; omega⟩
        · have hr : Aside0 (stepR out ⟨k, u⟩ = insRow out p ⟨k, u⟩) := ⟨by unfold stepR; rw [if_neg (by rw [← hb.out]; simp), if_neg hu, ← hp.out]⟩
          rw [hr.out] at hst
          have hue : u.toList.isEmpty = false := by simpa using hu
          have hil2 := Aside0.mk (insRow_length out p ⟨k, u⟩ hpl)
          go_wp2_with (first | (go_at_call 66; refine (hcall.out _ (by repeat (first | exact Below.refl _ _ | refine below_set ?_ (Nat.le_refl _) | apply below_alloc))).mono ?_; rintro e w3 ⟨rfl, hw⟩; have HW3 := Aside0.mk (below_step (below_alloc (Below.refl _ _) _ : Below wr.heap.size wr (wr.alloc (.cells #[.string k, .string u] 69))) hw); have z0 : w3.cell? ⟨wr.heap.size, 0, none⟩ = some (.string k) := (hw.cell (by simp)).trans (by rw [blk_cell (blk_new wr _)]; rfl); have z1 : w3.cell? ⟨wr.heap.size, 1, none⟩ = some (.string u) := (hw.cell (by simp)).trans (by rw [blk_cell (blk_new wr _)]; rfl); have HO3 := Aside0.mk (Kd.R_below HO.out HW3.out); have HB3 := Aside0.mk (below_step HB.out HW3.out); clear hw) | (go_at_call 71; refine (insert_walk w.heap.size _ out p ⟨k, u⟩ w3.heap.size _ (Kd.R_alloc HO3.out _) hpl (blk_new w3 _) (fun he => by have := Kd.R_lt HO3.out _ he.symm; omega) (Nat.le_trans HB3.out.size (by simp)) (by omega)).mono ?_; rintro e w4 ⟨v4, rfl, ho, hm⟩; obtain ⟨A4, c4, rfl⟩ := Kd.R_slice ho; have HO4 := Aside0.mk ho; have HB4 := Aside0.mk (hm.below (below_step HB3.out (below_alloc (Below.refl _ _) _)) (Nat.le_trans HB3.out.size (by simp))); clear ho hm))
          go_roundw
          case rel => exact ⟨i + 1, _, by simp, ⟨hlt⟩, hst, ⟨by rw [hil2.out]; omega⟩, HO4, HB4⟩
          case measure => simp [intOf]; omega
      · have hplt : p < out.length := hp.out ▸ placeB_lt hb.out.symm
        by_cases hu : u.toList = []
        · have hr : Aside0 (stepR out ⟨k, u⟩ = out.eraseIdx p) := ⟨by unfold stepR; rw [if_pos hb.out.symm, if_pos hu, ← hp.out]⟩
          rw [hr.out] at hst
          have hel : Aside0 ((out.eraseIdx p).length ≤ out.length) := ⟨by rw [List.length_eraseIdx]; split <;> omega⟩
          go_wp2_with (first | (go_at_call 66; refine (hcall.out _ (by repeat (first | exact Below.refl _ _ | refine below_set ?_ (Nat.le_refl _) | apply below_alloc))).mono ?_; rintro e w3 ⟨rfl, hw⟩; have HW3 := Aside0.mk (below_step (below_alloc (Below.refl _ _) _ : Below wr.heap.size wr (wr.alloc (.cells #[.string k, .string u] 69))) hw); have z0 : w3.cell? ⟨wr.heap.size, 0, none⟩ = some (.string k) := (hw.cell (by simp)).trans (by rw [blk_cell (blk_new wr _)]; rfl); have z1 : w3.cell? ⟨wr.heap.size, 1, none⟩ = some (.string u) := (hw.cell (by simp)).trans (by rw [blk_cell (blk_new wr _)]; rfl); have HO3 := Aside0.mk (Kd.R_below HO.out HW3.out); have HB3 := Aside0.mk (below_step HB.out HW3.out); clear hw) | (go_at_call 70; refine (delete_walk w.heap.size _ out p _ HO3.out hplt HB3.out.size (by omega)).mono ?_; rintro e w4 ⟨v4, rfl, ho, hm⟩; obtain ⟨A4, c4, rfl⟩ := Kd.R_slice ho; have HO4 := Aside0.mk ho; have HB4 := Aside0.mk (hm.below HB3.out HB3.out.size); clear ho hm))
          go_roundw
          case rel => exact ⟨i + 1, _, by simp, ⟨hlt⟩, hst, ⟨by have := hel.out; omega⟩, HO4, HB4⟩
          case measure => simp [intOf]; omega
        · have hr : Aside0 (stepR out ⟨k, u⟩ = out.set p ⟨k, u⟩) := ⟨by unfold stepR; rw [if_pos hb.out.symm, if_neg hu, ← hp.out]⟩
          rw [hr.out] at hst
          have hue : u.toList.isEmpty = false := by simpa using hu
          obtain ⟨g, c', cur, hv, -⟩ := row_open HO.out (by omega)
          injection hv with hv1 hv2 hv3
          subst hv1 hv3
          go_wp2_with (go_at_call 66; refine (hcall.out _ (by repeat (first | exact Below.refl _ _ | refine below_set ?_ (Nat.le_refl _) | apply below_alloc))).mono ?_; rintro e w3 ⟨rfl, hw⟩; have HW3 := Aside0.mk (below_step (below_alloc (Below.refl _ _) _ : Below wr.heap.size wr (wr.alloc (.cells #[.string k, .string u] 69))) hw); have z0 : w3.cell? ⟨wr.heap.size, 0, none⟩ = some (.string k) := (hw.cell (by simp)).trans (by rw [blk_cell (blk_new wr _)]; rfl); have z1 : w3.cell? ⟨wr.heap.size, 1, none⟩ = some (.string u) := (hw.cell (by simp)).trans (by rw [blk_cell (blk_new wr _)]; rfl); have HO3 := Aside0.mk (Kd.R_below HO.out HW3.out); have HB3 := Aside0.mk (below_step HB.out HW3.out); obtain ⟨ad', e', y0, y1⟩ := at_T69 (Kd.R_reads' HO3.out).2.2 (p : Int) (by omega) (by omega); obtain rfl := Option.some.inj e'; rw [Int.toNat_natCast, add_plain] at y0 y1; obtain ⟨cur3, hg3, hh3, -⟩ := row_slice HO3.out; have f0 := blk_frozen hh3 (p * 2); have f1 := blk_frozen hh3 (p * 2 + 1); have HS3 := Aside0.mk (row_set (x := ⟨k, u⟩) HO3.out hplt); have HM3 := Aside0.mk (((ModT.set_ (T := [69]) (j := p * 2) hh3 (by simp) hg3 (.string k)).trans (ModT.set_ (j := p * 2 + 1) (heap_set1 hh3) (by simp) hg3 (.string u))).below HB3.out HB3.out.size); clear hh3; clear hw)
          go_roundw
          case rel => exact ⟨i + 1, _, by simp, ⟨hlt⟩, hst, ⟨by rw [List.length_set]; omega⟩, HS3, HM3⟩
          case measure => simp [intOf]; omega
    · go_wp2
      go_ret
      have := hs.out
      rw [List.drop_of_length_le (by omega)] at this
      rw [← this]
      exact ⟨_, rfl, HO.out, HB.out⟩
end Go.Proofs.Ytnjidfgjldkkcaa.Q
/- Words on 'Ev' and on whole numbers that wrap: for the plain laws of this seat. No program. -/
namespace Go.Proofs.Ytnjidfgjldkkcaa.Plain
open Go.RowKit Go.Proofs.YtnjidfgjldkkcaaW.PrintWords
theorem Ev.pos {α : Type} {c : Prop} [Decidable c] {g f : Nat → Option α} {r : α} (hc : c) (h : Ev g r) : Ev (fun k => if c then g k else f k) r :=
  h.congr fun _ => if_pos hc
theorem Ev.neg {α : Type} {c : Prop} [Decidable c] {g f : Nat → Option α} {r : α} (hc : ¬ c) (h : Ev f r) : Ev (fun k => if c then g k else f k) r :=
  h.congr fun _ => if_neg hc
theorem Ev.to {α : Type} {g : Nat → Option α} {r q : α} (h : Ev g r) (e : r = q) : Ev g q := e ▸ h
theorem Ev.lift {α : Type} {o : Option α} {r : α} (h : o = some r) : Ev (fun _ => o) r := ⟨0, fun _ _ => h⟩
theorem wrap_in {n : Int} (h0 : -9223372036854775808 ≤ n) (h1 : n ≤ 9223372036854775807) : wrap64 n = n := by unfold wrap64; omega
theorem wrap_cast {n : Nat} (h1 : n ≤ 9223372036854775807) : wrap64 (n : Int) = n := wrap_in (by omega) (by omega)
theorem wrap_succ {i : Nat} (h1 : i < 9223372036854775807) : wrap64 ((i : Int) + 1) = ((i + 1 : Nat) : Int) := by rw [wrap_in (by omega) (by omega)]; rfl
theorem tmod_cast (a b : Nat) : Int.tmod (a : Int) (b : Int) = ((a % b : Nat) : Int) := by
  rw [Int.tmod_eq_emod_of_nonneg (by omega)]; exact (Int.natCast_emod a b).symm
theorem tdiv_cast (a b : Nat) : Int.tdiv (a : Int) (b : Int) = ((a / b : Nat) : Int) := by
  rw [Int.tdiv_eq_ediv_of_nonneg (by omega)]; exact (Int.natCast_ediv a b).symm
theorem getD_at {α : Type} {l : List α} {z : α} {i : Nat} (h : i < l.length) : l.getD ((i : Int).toNat) z = l[i] := by
  rw [Int.toNat_natCast, List.getD_eq_getElem?_getD, List.getElem?_eq_getElem h]; rfl
theorem rd_at {l : List Int} {i : Nat} (h : i < l.length) : rd l (i : Int) = l[i] := getD_at h
theorem empty_iff {s : ByteArray} : s.toList = [] ↔ s.size = 0 := by
  rw [Go.ByteArray.toList_eq, List.eq_nil_iff_length_eq_zero, Array.length_toList]; rfl
end Go.Proofs.Ytnjidfgjldkkcaa.Plain
/- Plain laws of package rows: what Check and its reference answer of a table. -/
namespace Go.Proofs.Ytnjidfgjldkkcaa.Plain
open Go.RowKit Go.Proofs.Ytnjidfgjldkkcaa.Q Go.Proofs.YtnjidfgjldkkcaaW.PrintWords

/-- The fault of the rows behind a row with the key p. -/
def faultFrom : Option ByteArray → List S69 → Int
  | _, [] => 0
  | p, r :: t => if r.f0.size < 1 ∨ 20 < r.f0.size ∨ 20 < r.f1.size then 1 else if r.f1.size = 0 then 4 else
      if (match p with | none => true | some q => Op.bytesLess q.toList r.f0.toList) = true then faultFrom (some r.f0) t else 7
/-- The fault of a table. -/
def rowsErr (l : List S69) : Int := if 40 < l.length then 1 else faultFrom none l
def prevOf (l : List S69) (i : Nat) : Option ByteArray := if i = 0 then none else (l[i - 1]?).map (·.f0)

theorem rd69 {l : List S69} {i : Nat} (h : i < l.length) : rd_T69 l (i : Int) = l[i] := getD_at h

theorem key_f (a : ByteArray) : rows_key.f a = some (decide (¬ (a.size < 1 ∨ 20 < a.size))) := by
  unfold rows_key.f
  by_cases h : a.size = 0
  · rw [if_pos (empty_iff.2 h), decide_eq_false (by omega)]
  · rw [if_neg (fun e => h (empty_iff.1 e))]
    congr 1
    by_cases h2 : (a.size : Int) ≤ 20
    · rw [decide_eq_true h2, decide_eq_true (by omega)]
    · rw [decide_eq_false h2, decide_eq_false (by omega)]

theorem check_tail (l : List S69) (i : Nat) (hi : i < l.length) (b : Bool) (hb : b = decide (l[i].f0.size < 1 ∨ 20 < l[i].f0.size ∨ 20 < l[i].f1.size)) (hl : l.length ≤ 40)
    (ih : Ev (fun k => rows_Check.l0 k l l (l.length : Int) ((i + 1 : Nat) : Int)) (faultFrom (some l[i].f0) (l.drop (i + 1)))) :
    Ev (fun k => rows_Check.j1 k l (i : Int) l (l.length : Int) (i : Int) b l[i].f0 l[i].f1) (faultFrom (prevOf l i) (l.drop i)) := by
  rw [List.drop_eq_getElem_cons hi]
  unfold faultFrom
  refine Ev.step (fun k => rfl) ?_
  by_cases h : l[i].f0.size < 1 ∨ 20 < l[i].f0.size ∨ 20 < l[i].f1.size
  · rw [if_pos h]
    exact Ev.pos (by rw [hb, decide_eq_true h]) (Ev.now _)
  rw [if_neg h]
  refine Ev.neg (by rw [hb, decide_eq_false h]; simp) ?_
  by_cases h4 : l[i].f1.size = 0
  · rw [if_pos h4]
    exact Ev.pos (empty_iff.2 h4) (Ev.now _)
  rw [if_neg h4]
  refine Ev.neg (fun e => h4 (empty_iff.1 e)) ?_
  have e2 : wrap64 ((i : Int) + 1) = ((i + 1 : Nat) : Int) := wrap_succ (by omega)
  by_cases h0 : i = 0
  · subst h0
    refine Ev.neg (by omega) ?_
    rw [e2]
    simpa [prevOf] using ih
  · have e1 : wrap64 ((i : Int) - 1) = ((i - 1 : Nat) : Int) := by rw [wrap_in (by omega) (by omega)]; omega
    have hp : prevOf l i = some l[i - 1].f0 := by unfold prevOf; rw [if_neg h0, List.getElem?_eq_getElem (by omega)]; rfl
    rw [hp, e1, rd69 (by omega : i - 1 < l.length), e2]
    refine Ev.pos (by omega) (Ev.pos (by omega) (Ev.pos (by omega) ?_))
    by_cases hb7 : Op.bytesLess l[i - 1].f0.toList l[i].f0.toList = true
    · rw [if_pos hb7]
      exact Ev.pos hb7 ih
    · rw [if_neg hb7]
      exact Ev.neg hb7 (Ev.now _)

theorem check_l0 (l : List S69) (hl : l.length ≤ 40) : ∀ (d i : Nat), i + d = l.length → Ev (fun k => rows_Check.l0 k l l (l.length : Int) (i : Int)) (faultFrom (prevOf l i) (l.drop i))
  | 0, i, hi => by
    rw [List.drop_of_length_le (by omega)]
    exact Ev.step (fun k => rfl) (Ev.neg (by omega) (Ev.now _))
  | d + 1, i, hi => by
    have hlt : i < l.length := by omega
    have ih := check_l0 l hl d (i + 1) (by omega)
    have hp : prevOf l (i + 1) = some l[i].f0 := by unfold prevOf; rw [if_neg (by omega), Nat.add_sub_cancel, List.getElem?_eq_getElem hlt]; rfl
    rw [hp] at ih
    refine Ev.step (fun k => rfl) (Ev.pos (by omega) (Ev.pos (by omega) (Ev.pos (by omega) ?_)))
    rw [rd69 hlt]
    refine Ev.bind (Ev.lift (key_f _)) ?_
    by_cases h : l[i].f0.size < 1 ∨ 20 < l[i].f0.size
    · rw [decide_eq_false (fun hn => hn h)]
      exact Ev.neg (by simp) (check_tail l i hlt true (by rw [decide_eq_true (by omega)]) hl ih)
    · rw [decide_eq_true h]
      refine Ev.pos rfl (check_tail l i hlt _ ?_ hl ih)
      by_cases h2 : 20 < l[i].f1.size
      · rw [decide_eq_true (by omega), decide_eq_true (by omega)]
      · rw [decide_eq_false (by omega), decide_eq_false (by omega)]
theorem check_ev (l : List S69) : Ev (fun k => rows_Check.f k l) (rowsErr l) := by
  unfold rows_Check.f rowsErr
  by_cases h : 40 < l.length
  · rw [if_pos h]; exact Ev.pos (by omega) (Ev.now _)
  · rw [if_neg h]
    exact Ev.neg (by omega) (check_l0 l (by omega) l.length 0 (by omega))

theorem fault_tail (l : List S69) (i : Nat) (hi : i < l.length) (b : Bool) (hb : b = decide (l[i].f0.size < 1 ∨ 20 < l[i].f0.size ∨ 20 < l[i].f1.size)) (hl : l.length ≤ 40)
    (ih : Ev (fun k => bagnallref_RowsFault.l0 k l l (l.length : Int) ((i + 1 : Nat) : Int)) (faultFrom (some l[i].f0) (l.drop (i + 1)))) :
    Ev (fun k => bagnallref_RowsFault.j1 k l (i : Int) l (l.length : Int) (i : Int) b l[i].f0 l[i].f1) (faultFrom (prevOf l i) (l.drop i)) := by
  rw [List.drop_eq_getElem_cons hi]
  unfold faultFrom
  refine Ev.step (fun k => rfl) ?_
  by_cases h : l[i].f0.size < 1 ∨ 20 < l[i].f0.size ∨ 20 < l[i].f1.size
  · rw [if_pos h]
    exact Ev.pos (by rw [hb, decide_eq_true h]) (Ev.now _)
  rw [if_neg h]
  refine Ev.neg (by rw [hb, decide_eq_false h]; simp) ?_
  by_cases h4 : l[i].f1.size = 0
  · rw [if_pos h4]
    exact Ev.pos (by omega) (Ev.now _)
  rw [if_neg h4]
  refine Ev.neg (by omega) ?_
  have e2 : wrap64 ((i : Int) + 1) = ((i + 1 : Nat) : Int) := wrap_succ (by omega)
  by_cases h0 : i = 0
  · subst h0
    refine Ev.neg (by omega) ?_
    rw [e2]
    simpa [prevOf] using ih
  · have e1 : wrap64 ((i : Int) - 1) = ((i - 1 : Nat) : Int) := by rw [wrap_in (by omega) (by omega)]; omega
    have hp : prevOf l i = some l[i - 1].f0 := by unfold prevOf; rw [if_neg h0, List.getElem?_eq_getElem (by omega)]; rfl
    rw [hp, e1, rd69 (by omega : i - 1 < l.length), e2]
    refine Ev.pos (by omega) (Ev.pos (by omega) (Ev.pos (by omega) ?_))
    by_cases hb7 : Op.bytesLess l[i - 1].f0.toList l[i].f0.toList = true
    · rw [if_pos hb7]
      exact Ev.pos hb7 ih
    · rw [if_neg hb7]
      exact Ev.neg hb7 (Ev.now _)
theorem fault_l0 (l : List S69) (hl : l.length ≤ 40) : ∀ (d i : Nat), i + d = l.length → Ev (fun k => bagnallref_RowsFault.l0 k l l (l.length : Int) (i : Int)) (faultFrom (prevOf l i) (l.drop i))
  | 0, i, hi => by
    rw [List.drop_of_length_le (by omega)]
    exact Ev.step (fun k => rfl) (Ev.neg (by omega) (Ev.now _))
  | d + 1, i, hi => by
    have hlt : i < l.length := by omega
    have ih := fault_l0 l hl d (i + 1) (by omega)
    have hp : prevOf l (i + 1) = some l[i].f0 := by unfold prevOf; rw [if_neg (by omega), Nat.add_sub_cancel, List.getElem?_eq_getElem hlt]; rfl
    rw [hp] at ih
    refine Ev.step (fun k => rfl) (Ev.pos (by omega) (Ev.pos (by omega) (Ev.pos (by omega) ?_)))
    rw [rd69 hlt]
    by_cases h : l[i].f0.size < 1
    · exact Ev.pos (by omega) (fault_tail l i hlt true (by rw [decide_eq_true (by omega)]) hl ih)
    refine Ev.neg (by omega) ?_
    by_cases h2 : 20 < l[i].f0.size
    · exact Ev.pos (by omega) (fault_tail l i hlt true (by rw [decide_eq_true (by omega)]) hl ih)
    refine Ev.neg (by omega) (fault_tail l i hlt _ ?_ hl ih)
    by_cases h3 : 20 < l[i].f1.size
    · rw [decide_eq_true (by omega), decide_eq_true (by omega)]
    · rw [decide_eq_false (by omega), decide_eq_false (by omega)]
theorem fault_ev (l : List S69) : Ev (fun k => bagnallref_RowsFault.f k l) (rowsErr l) := by
  unfold bagnallref_RowsFault.f rowsErr
  by_cases h : 40 < l.length
  · rw [if_pos h]; exact Ev.pos (by omega) (Ev.now _)
  · rw [if_neg h]
    exact Ev.neg (by omega) (fault_l0 l (by omega) l.length 0 (by omega))
end Go.Proofs.Ytnjidfgjldkkcaa.Plain
/- slices.ContainsFunc at rows, rows.Fault, rows.Set, walked. -/
namespace Go.Proofs.Ytnjidfgjldkkcaa.Q
open Go.RowKit Go.Proofs.YtnjidfgjldkkcaaW.PrintWords Go.Proofs.YtnjidfgjldkkcaaW.PrintLast Go.Proofs.YtnjidfgjldkkcaaW.PrintMore Go.Proofs.Ytnjidfgjldkkcaa.Plain
def oddR (r : S69) : Bool := decide (r.f0.size < 1 ∨ 20 < r.f0.size ∨ 20 < r.f1.size)
theorem oddR_f (r : S69) : rows_Fault_1.f r.f0 r.f1 = some (oddR r) := by
  unfold rows_Fault_1.f oddR
  rw [key_f, Option.bind_some]
  by_cases h : r.f0.size < 1 ∨ 20 < r.f0.size
  · rw [if_neg (by rw [decide_eq_false (fun hn => hn h)]; simp), decide_eq_true (show r.f0.size < 1 ∨ 20 < r.f0.size ∨ 20 < r.f1.size by omega)]
  · rw [if_pos (decide_eq_true h)]
    congr 1
    by_cases h2 : 20 < r.f1.size
    · rw [decide_eq_true (by omega), decide_eq_true (by omega)]
    · rw [decide_eq_false (by omega), decide_eq_false (by omega)]
set_option maxRecDepth 100000 in
set_option maxHeartbeats 4000000 in
theorem indexR_walk (A : Option Addr) (c : Nat) (l : List S69) (w : World) (hr : Kd.C k69 w A l.length l) (hc : l.length ≤ c) :
    Calls Try.prog 83 #[.slice A l.length c, .func (Fn.func 68) #[] #[]] w fun e w' => e = .returned (.int .i64 (idxF oddR l 0)) ∧ Below w.heap.size w w' := by
  have HR := Aside0.mk hr
  have HC := Aside0.mk hc
  have HM := Aside0.mk (Kd.C_max hr)
  clear hr hc
  go_enter Try.func83, Try.ntmps83
  go_wp2
  go_loopw [8] (fun vi wr => ∃ (i : Nat), vi = .int .i64 i ∧ Aside0 (i ≤ l.length) ∧ Aside0 (idxF oddR (l.drop i) i = idxF oddR l 0) ∧ Aside0 (Below w.heap.size w wr)) (fun vi _ => l.length - (intOf vi).toNat)
  case atStart => exact ⟨0, rfl, ⟨Nat.zero_le _⟩, ⟨rfl⟩, ⟨Below.refl _ _⟩⟩
  case round =>
    obtain ⟨i, rfl, hi, hs, HB⟩ := hrel
    have hi' := hi.out
    have hm' := HM.out
    by_cases hlt : i < l.length
    · obtain ⟨ad, rfl, x0, x1⟩ := at_T69 (Kd.C_below HR.out HB.out) (i : Int) (by omega) (by omega)
      have hst : Aside0 ((if oddR (rd_T69 l (i : Int)) = true then (i : Int) else idxF oddR (l.drop (i + 1)) ((i : Int) + 1)) = idxF oddR l 0) := ⟨by
        have := hs.out
        rw [List.drop_eq_getElem_cons hlt] at this
        rw [rd69 hlt]
        exact this⟩
      clear hs
      obtain ⟨r, hr⟩ : ∃ r, r = rd_T69 l (i : Int) := ⟨_, rfl⟩
      rw [← hr] at hst x0 x1
      clear hr
      rw [Int.toNat_natCast] at x0 x1
      obtain ⟨k, u⟩ := r
      obtain ⟨b, hb⟩ : ∃ b, Aside0 (b = oddR ⟨k, u⟩) := ⟨_, ⟨rfl⟩⟩
      rw [← hb.out] at hst
      cases b
      · have e : Aside0 (idxF oddR (l.drop (i + 1)) ((i : Int) + 1) = idxF oddR l 0) := ⟨by have := hst.out; rw [if_neg (by simp)] at this; exact this⟩
        go_wp2_with (go_at_call 68; refine (rows_Fault_1.calls k u false _ (by rw [hb.out]; exact oddR_f ⟨k, u⟩)).mono ?_; rintro e w1 ⟨rfl, hbl⟩; have HB1 := Aside0.mk (below_step HB.out hbl); clear hbl)
        go_roundw
        case rel => exact ⟨i + 1, by go_num, ⟨by omega⟩, e, HB1⟩
        case measure => simp [intOf]; omega
      · have e : Aside0 ((i : Int) = idxF oddR l 0) := ⟨by have := hst.out; rw [if_pos rfl] at this; exact this⟩
        go_wp2_with (go_at_call 68; refine (rows_Fault_1.calls k u true _ (by rw [hb.out]; exact oddR_f ⟨k, u⟩)).mono ?_; rintro e w1 ⟨rfl, hbl⟩; have HB1 := Aside0.mk (below_step HB.out hbl); clear hbl)
        go_ret
        rw [← e.out]
        exact ⟨rfl, HB1.out⟩
    · go_wp2
      go_ret
      have e := hs.out
      rw [List.drop_of_length_le (by omega)] at e
      rw [← e]
      exact ⟨rfl, HB.out⟩
set_option maxRecDepth 100000 in
set_option maxHeartbeats 4000000 in
theorem containsR_walk (A : Option Addr) (c : Nat) (l : List S69) (w : World) (hr : Kd.C k69 w A l.length l) (hc : l.length ≤ c) :
    Calls Try.prog 69 #[.slice A l.length c, .func (Fn.func 68) #[] #[]] w fun e w' => e = .returned (.bool (l.any oddR)) ∧ Below w.heap.size w w' := by
  go_enter Try.func69, Try.ntmps69
  go_wp2_with (go_at_call 83; refine (indexR_walk A c l _ hr hc).mono ?_; rintro e w1 ⟨rfl, hb⟩)
  go_ret
  rw [← idxF_any oddR l 0 (Int.le_refl 0)]
  exact ⟨rfl, hb⟩
def faultF (l cs : List S69) : Int := if 60 < cs.length then 1 else if cs.any oddR = true then 1 else if 40 < (changedF l cs).length then 10 else 0
theorem changedF_len (l cs : List S69) : (changedF l cs).length ≤ l.length + cs.length := by
  induction cs generalizing l with
  | nil => simp [changedF]
  | cons c t ih =>
    have := ih (stepR l c)
    have h2 := stepR_len l c
    simp only [changedF, List.foldl_cons, List.length_cons] at this ⊢
    omega
set_option maxRecDepth 100000 in
set_option maxHeartbeats 4000000 in
theorem fault_walk (A B : Option Addr) (c d : Nat) (l cs : List S69) (w : World) (hr : Kd.C k69 w A l.length l) (hc : l.length ≤ c) (hq : Kd.C k69 w B cs.length cs) (hd : cs.length ≤ d) (hl : l.length ≤ 800000) :
    Calls Try.prog 48 #[.slice A l.length c, .slice B cs.length d] w fun e w' => e = .returned (.int .i64 (faultF l cs)) ∧ Below w.heap.size w w' := by
  have HR := Aside0.mk hr
  have HC := Aside0.mk hc
  have HQ := Aside0.mk hq
  have HD := Aside0.mk hd
  clear hr hc hq hd
  by_cases h1 : 60 < cs.length
  · have e : Aside0 (faultF l cs = 1) := ⟨by unfold faultF; rw [if_pos h1]⟩
    go_enter Try.func48, Try.ntmps48
    go_wp2
    go_ret
    rw [e.out]
    exact ⟨rfl, Below.refl _ _⟩
  have hcalls : Aside0 (∀ W, Below w.heap.size w W → Calls Try.prog 69 #[.slice B cs.length d, .func (Fn.func 68) #[] #[]] W fun e w' => e = .returned (.bool (cs.any oddR)) ∧ Below W.heap.size W w') := ⟨fun W hW => containsR_walk B d cs W (Kd.C_below HQ.out hW) HD.out⟩
  by_cases h2 : cs.any oddR = true
  · have e : Aside0 (faultF l cs = 1) := ⟨by unfold faultF; rw [if_neg h1, if_pos h2]⟩
    rw [h2] at hcalls
    clear h2
    go_enter Try.func48, Try.ntmps48
    go_wp2_with (go_at_call 69; refine (hcalls.out _ (Below.refl _ _)).mono ?_; rintro e w1 ⟨rfl, hb⟩; have HB1 := Aside0.mk hb; clear hb)
    go_ret
    rw [e.out]
    exact ⟨rfl, HB1.out⟩
  have h2' : cs.any oddR = false := Bool.eq_false_iff.2 h2
  rw [h2'] at hcalls
  obtain ⟨ys, hys⟩ : ∃ ys, Aside0 (ys = changedF l cs) := ⟨_, ⟨rfl⟩⟩
  have hch : Aside0 (∀ W, Below w.heap.size w W → Calls Try.prog 49 #[.slice A l.length c, .slice B cs.length d] W fun e w' => ∃ v', e = .returned v' ∧ k69.R 69 w' W.heap.size (fun _ => True) v' ys ∧ Below W.heap.size W w') := ⟨fun W hW => hys.out ▸ changed_walk A B c d l cs W (Kd.C_below HR.out hW) HC.out (Kd.C_below HQ.out hW) HD.out (by omega)⟩
  have hyl : ys.length ≤ 900000 := by have := changedF_len l cs; rw [← hys.out] at this; omega
  by_cases h3 : 40 < ys.length
  · have e : Aside0 (faultF l cs = 10) := ⟨by unfold faultF; rw [if_neg h1, if_neg h2, if_pos (by rw [← hys.out]; exact h3)]⟩
    clear h2 h2'
    go_enter Try.func48, Try.ntmps48
    go_wp2_with (first | (go_at_call 69; refine (hcalls.out _ (Below.refl _ _)).mono ?_; rintro e w1 ⟨rfl, hb⟩; have HB1 := Aside0.mk hb; clear hb) | (go_at_call 49; refine (hch.out _ HB1.out).mono ?_; rintro e w2 ⟨v, rfl, ho, hb⟩; obtain ⟨A2, c2, rfl⟩ := Kd.R_slice ho; have HB2 := Aside0.mk (below_step HB1.out hb); clear ho hb))
    go_ret
    rw [e.out]
    exact ⟨rfl, HB2.out⟩
  · have e : Aside0 (faultF l cs = 0) := ⟨by unfold faultF; rw [if_neg h1, if_neg h2, if_neg (by rw [← hys.out]; exact h3)]⟩
    clear h2 h2'
    go_enter Try.func48, Try.ntmps48
    go_wp2_with (first | (go_at_call 69; refine (hcalls.out _ (Below.refl _ _)).mono ?_; rintro e w1 ⟨rfl, hb⟩; have HB1 := Aside0.mk hb; clear hb) | (go_at_call 49; refine (hch.out _ HB1.out).mono ?_; rintro e w2 ⟨v, rfl, ho, hb⟩; obtain ⟨A2, c2, rfl⟩ := Kd.R_slice ho; have HB2 := Aside0.mk (below_step HB1.out hb); clear ho hb))
    go_ret
    rw [e.out]
    exact ⟨rfl, HB2.out⟩
def setF (l cs : List S69) : List S69 × Int := if rowsErr l ≠ 0 then ([], rowsErr l) else if faultF l cs ≠ 0 then ([], faultF l cs) else (changedF l cs, 0)
def rows_Set.f (l cs : List S69) : Option (List S69 × Int) := some (setF l cs)
theorem check_walk (A : Option Addr) (c : Nat) (l : List S69) (w : World) (hr : Kd.C k69 w A l.length l) (hc : l.length ≤ c) :
    Calls Try.prog 18 #[.slice A l.length c] w fun e w' => e = .returned (.int .i64 (rowsErr l)) ∧ Below w.heap.size w w' := by
  obtain ⟨k, hk⟩ := (check_ev l).rounds
  exact rows_Check.calls k A c l _ w hr hc hk
theorem rowsErr_len {l : List S69} (h : rowsErr l = 0) : l.length ≤ 40 := by
  unfold rowsErr at h
  split at h
  · cases h
  · omega
set_option maxRecDepth 100000 in
set_option maxHeartbeats 4000000 in
theorem rows_Set.calls (A0 : Option Addr) (c0 : Nat) (l0 : List S69) (A1 : Option Addr) (c1 : Nat) (l1 : List S69) (r1 : List S69) (r2 : Int) (w : World) (hr0 : Kd.C k69 w A0 l0.length l0) (hc0 : l0.length ≤ c0) (hr1 : Kd.C k69 w A1 l1.length l1) (hc1 : l1.length ≤ c1) (h : rows_Set.f l0 l1 = some (r1, r2)) :
    Calls Try.prog 25 #[.slice A0 l0.length c0, .slice A1 l1.length c1] w fun e w' => ∃ v0_ : Value, e = .returned (.tuple #[v0_, .int .i64 r2]) ∧ k69.R 69 w' w.heap.size (fun _ => True) v0_ r1 ∧ Below w.heap.size w w' := by
  replace h := Option.some.inj h
  unfold setF at h
  have HR := Aside0.mk hr0
  have HC := Aside0.mk hc0
  have HQ := Aside0.mk hr1
  have HD := Aside0.mk hc1
  obtain ⟨e1, he1⟩ : ∃ z, z = rowsErr l0 := ⟨_, rfl⟩
  obtain ⟨e2, he2⟩ : ∃ z, z = faultF l0 l1 := ⟨_, rfl⟩
  have H1 : Aside0 (∀ W, Below w.heap.size w W → Calls Try.prog 18 #[.slice A0 l0.length c0] W fun e w' => e = .returned (.int .i64 e1) ∧ Below W.heap.size W w') := ⟨fun W hW => he1 ▸ check_walk A0 c0 l0 W (Kd.C_below hr0 hW) hc0⟩
  rw [← he1, ← he2] at h
  by_cases h1 : e1 ≠ 0
  · rw [if_pos h1] at h
    obtain ⟨rfl, rfl⟩ := Prod.mk.inj h
    clear he1 he2 h hr0 hr1
    go_enter Try.func25, Try.ntmps25
    go_wp2_with (go_at_call 18; refine (H1.out _ (Below.refl _ _)).mono ?_; rintro e w1 ⟨rfl, hb⟩; have HB1 := Aside0.mk hb; clear hb)
    go_ret2
    exact ⟨_, rfl, Kd.R_nil _ _ _ _ _, HB1.out⟩
  rw [if_neg h1] at h
  obtain rfl : e1 = 0 := by omega
  have hl40 := rowsErr_len he1.symm
  have H2 : Aside0 (∀ W, Below w.heap.size w W → Calls Try.prog 48 #[.slice A0 l0.length c0, .slice A1 l1.length c1] W fun e w' => e = .returned (.int .i64 e2) ∧ Below W.heap.size W w') := ⟨fun W hW => he2 ▸ fault_walk A0 A1 c0 c1 l0 l1 W (Kd.C_below hr0 hW) hc0 (Kd.C_below hr1 hW) hc1 (by omega)⟩
  by_cases h2 : e2 ≠ 0
  · rw [if_pos h2] at h
    obtain ⟨rfl, rfl⟩ := Prod.mk.inj h
    clear he1 he2 h hr0 hr1 h1
    go_enter Try.func25, Try.ntmps25
    go_wp2_with (first | (go_at_call 18; refine (H1.out _ (Below.refl _ _)).mono ?_; rintro e w1 ⟨rfl, hb⟩; have HB1 := Aside0.mk hb; clear hb) | (go_at_call 48; refine (H2.out _ HB1.out).mono ?_; rintro e w2 ⟨rfl, hb⟩; have HB2 := Aside0.mk (below_step HB1.out hb); clear hb))
    go_ret2
    exact ⟨_, rfl, Kd.R_nil _ _ _ _ _, HB2.out⟩
  rw [if_neg h2] at h
  obtain rfl : e2 = 0 := by omega
  have hl60 : l1.length ≤ 60 := by
    have := he2
    unfold faultF at this
    by_cases hh : 60 < l1.length
    · rw [if_pos hh] at this; omega
    · omega
  have H3 : Aside0 (∀ W, Below w.heap.size w W → Calls Try.prog 49 #[.slice A0 l0.length c0, .slice A1 l1.length c1] W fun e w' => ∃ v', e = .returned v' ∧ k69.R 69 w' W.heap.size (fun _ => True) v' (changedF l0 l1) ∧ Below W.heap.size W w') := ⟨fun W hW => changed_walk A0 A1 c0 c1 l0 l1 W (Kd.C_below hr0 hW) hc0 (Kd.C_below hr1 hW) hc1 (by omega)⟩
  obtain ⟨rfl, rfl⟩ := Prod.mk.inj h
  clear he1 he2 h hr0 hr1 h1 h2
  go_enter Try.func25, Try.ntmps25
  go_wp2_with (first | (go_at_call 18; refine (H1.out _ (Below.refl _ _)).mono ?_; rintro e w1 ⟨rfl, hb⟩; have HB1 := Aside0.mk hb; clear hb) | (go_at_call 48; refine (H2.out _ HB1.out).mono ?_; rintro e w2 ⟨rfl, hb⟩; have HB2 := Aside0.mk (below_step HB1.out hb); clear hb) | (go_at_call 49; refine (H3.out _ HB2.out).mono ?_; rintro e w3 ⟨v, rfl, ho, hb⟩; have HO3 := Aside0.mk (Kd.R_lower ho HB2.out.size); have HB3 := Aside0.mk (below_step HB2.out hb); clear ho hb))
  go_ret2
  exact ⟨_, rfl, HO3.out, HB3.out⟩
end Go.Proofs.Ytnjidfgjldkkcaa.Q
/- wal.first, wal.Read, wal.Scan, walked. -/
namespace Go.Proofs.Ytnjidfgjldkkcaa.Q
open Go.RowKit Go.Proofs.YtnjidfgjldkkcaaW.PrintWords Go.Proofs.YtnjidfgjldkkcaaW.PrintLast Go.Proofs.YtnjidfgjldkkcaaW.PrintMore
def headOk (b : List Int) : Bool := decide (2 ≤ b.length) && decide (1 ≤ rd b 0) && decide (rd b 0 ≤ 60) && decide (rd b 1 ≤ 1)
/-- The number of bytes of the head and the record. -/
def kOf (b : List Int) : Nat := 2 + (rd b 0).toNat
def sumOk (b : List Int) : Bool := decide (kOf b + 2 ≤ b.length) && ((sumsF 0 0 (b.take (kOf b))).1 % 256 == rd b (kOf b : Int) && (sumsF 0 0 (b.take (kOf b))).2 % 256 == rd b ((kOf b + 1 : Nat) : Int))
def firstF (b : List Int) : List Int × Bool × Nat := if (headOk b && sumOk b) = true then ((b.take (kOf b)).drop 2, rd b 1 == 1, kOf b + 2) else ([], false, 0)
theorem arr124 (a : Option Addr) (c : Nat) (w : World) : (Instr.arrayAt 124 (.slice a 2 c)).run Try.prog w = .ok (.pointer a) w := run_arrayAt w 124 5 2 a 2 c Try.underlying124 (Nat.le_refl _)
theorem eq124 (a b c d : Int) (w : World) : (Op.equalIn 10000 124 (.agg #[.int .u8 a, .int .u8 b]) (.agg #[.int .u8 c, .int .u8 d])).run Try.prog w = .ok (a == c && b == d) w := by
  obtain ⟨i, hi, _⟩ := Option.map_eq_some_iff.1 info5
  have hc : Try.prog.cellsOf 5 = 1 := by kernel_rfl
  rw [run_equalIn_array w 9999 _ _ Try.underlying124 hi, hc]
  have p1 : ∀ (x y : Int) (w : World), (part 5 #[.int .u8 x, .int .u8 y] 0).run Try.prog w = .ok (.int .u8 x) w := fun x y w => by simp [part, isAgg, run_underlying Try.underlying5]
  have p2 : ∀ (x y : Int) (w : World), (part 5 #[.int .u8 x, .int .u8 y] 1).run Try.prog w = .ok (.int .u8 y) w := fun x y w => by simp [part, isAgg, run_underlying Try.underlying5]
  have pe : ∀ (x y : Int) (w : World), (Op.equalIn 9999 5 (.int .u8 x) (.int .u8 y)).run Try.prog w = .ok (x == y) w := fun x y w => by
    rw [run_equalIn_int w 9998 5 .u8 .u8 _ _ Try.underlying5]
  simp only [show List.range 2 = [0, 1] from rfl, Op.eqItems, Nat.zero_mul, Nat.one_mul, Sem.run_bind, p1, pe, Result.andThen_ok]
  cases h1 : (a == c)
  · simp
  · simp only [Bool.not_true, Bool.false_eq_true, if_false, Bool.true_and]
    simp only [Sem.run_bind, p2, pe, Result.andThen_ok]
    cases h2 : (b == d) <;> simp
attribute [local go_sem] arr124 eq124
theorem wrap_k {k0 : Nat} (h : k0 ≤ 60) : IntKind.i64.wrap (2 + (k0 : Int) + 2) = 2 + (k0 : Int) + 2 := by
  rw [IntKind.wrap_i64]
  omega
set_option maxRecDepth 100000 in
set_option maxHeartbeats 4000000 in
theorem first_walk (A : Option Addr) (c : Nat) (b : List Int) (w : World) (hr : Kd.C (Kd.int .u8) w A b.length b) (hc : b.length ≤ c) (hl : b.length ≤ 1000000) :
    Calls Try.prog 74 #[.slice A b.length c] w fun e w' => ∃ A' c', e = .returned (.tuple #[.slice A' (firstF b).1.length c', .bool (firstF b).2.1, .int .i64 ((firstF b).2.2 : Int)]) ∧ (firstF b).1.length ≤ c' ∧ Kd.C (Kd.int .u8) w A' (firstF b).1.length (firstF b).1 ∧ Below w.heap.size w w' := by
  have HR := Aside0.mk hr
  have HC := Aside0.mk hc
  clear hr hc
  have none_ : ∀ (h : headOk b = false ∨ sumOk b = false), firstF b = ([], false, 0) := by
    intro h
    unfold firstF
    rw [if_neg]
    intro e
    rw [Bool.and_eq_true] at e
    rcases h with h | h <;> simp [h] at e
  have HN := Aside0.mk none_
  clear none_
  go_enter Try.func74, Try.ntmps74
  by_cases h2 : b.length < 2
  · have e := HN.out (.inl (by unfold headOk; rw [decide_eq_false (show ¬ 2 ≤ b.length by omega)]; rfl))
    replace e := Aside0.mk e
    go_wp2
    go_ret3
    rw [e.out]
    exact ⟨none, 0, rfl, Nat.le_refl _, Kd.C_nil _ _, Below.refl _ _⟩
  · obtain ⟨ad, rfl, hc0⟩ := Kd.at_int HR.out 0 (by omega) (by omega)
    obtain ⟨ad', had, hc1⟩ := Kd.at_int HR.out 1 (by omega) (by omega)
    obtain rfl := Option.some.inj had
    obtain ⟨x0, hx0⟩ : ∃ x, x = rd b 0 := ⟨_, rfl⟩
    obtain ⟨x1, hx1⟩ : ∃ x, x = rd b 1 := ⟨_, rfl⟩
    rw [← hx0] at hc0
    rw [← hx1] at hc1
    replace hx0 := Aside0.mk hx0
    replace hx1 := Aside0.mk hx1
    simp only [Int.toNat_zero, show (1 : Int).toNat = 1 from rfl] at hc0 hc1
    replace hc0 : w.cell? ad = some (.int .u8 x0) := hc0
    replace hc1 : w.cell? ⟨ad.block, ad.off + 1, none⟩ = some (.int .u8 x1) := hc1
    have hd2 : decide ((b.length : Int) < 2) = false := decide_eq_false (by omega)
    by_cases h3 : x0 < 1
    · have e := Aside0.mk (HN.out (.inl (by unfold headOk; rw [← hx0.out, decide_eq_false (show ¬ 1 ≤ x0 by omega), Bool.and_false]; rfl)))
      go_wp2
      go_ret3
      rw [e.out]
      exact ⟨none, 0, rfl, Nat.le_refl _, Kd.C_nil _ _, Below.refl _ _⟩
    by_cases h4 : 60 < x0
    · have e := Aside0.mk (HN.out (.inl (by unfold headOk; rw [← hx0.out, decide_eq_false (show ¬ x0 ≤ 60 by omega), Bool.and_false]; rfl)))
      go_wp2
      go_ret3
      rw [e.out]
      exact ⟨none, 0, rfl, Nat.le_refl _, Kd.C_nil _ _, Below.refl _ _⟩
    by_cases h5 : 1 < x1
    · have e := Aside0.mk (HN.out (.inl (by unfold headOk; rw [← hx1.out, decide_eq_false (show ¬ x1 ≤ 1 by omega), Bool.and_false])))
      go_wp2
      go_ret3
      rw [e.out]
      exact ⟨none, 0, rfl, Nat.le_refl _, Kd.C_nil _ _, Below.refl _ _⟩
    have hh : Aside0 (headOk b = true) := ⟨by unfold headOk; rw [← hx0.out, ← hx1.out, decide_eq_true (show 2 ≤ b.length by omega), decide_eq_true (show 1 ≤ x0 by omega), decide_eq_true (show x0 ≤ 60 by omega), decide_eq_true (show x1 ≤ 1 by omega)]; rfl⟩
    obtain ⟨k0, rfl⟩ : ∃ k0 : Nat, x0 = k0 := ⟨x0.toNat, by omega⟩
    have hk : Aside0 (kOf b = 2 + k0) := ⟨by unfold kOf; rw [← hx0.out]; simp⟩
    by_cases h6 : b.length < k0 + 4
    · have e := Aside0.mk (HN.out (.inr (by unfold sumOk; rw [hk.out, decide_eq_false (show ¬ 2 + k0 + 2 ≤ b.length by omega), Bool.false_and])))
      have hd6 : decide ((b.length : Int) < 2 + (k0 : Int) + 2) = true := decide_eq_true (by omega)
      have hw6 : IntKind.i64.wrap (2 + (k0 : Int) + 2) = 2 + (k0 : Int) + 2 := wrap_k (by omega)
      go_wp2
      go_quiet (fail)
      go_wp2
      go_ret3
      rw [e.out]
      exact ⟨none, 0, rfl, Nat.le_refl _, Kd.C_nil _ _, pw_below_drewN (Below.refl _ _) _⟩
    have hd6 : decide ((b.length : Int) < 2 + (k0 : Int) + 2) = false := decide_eq_false (by omega)
    have hw6 : IntKind.i64.wrap (2 + (k0 : Int) + 2) = 2 + (k0 : Int) + 2 := wrap_k (by omega)
    have hT := Aside0.mk (Kd.C_take HR.out (show 2 + k0 ≤ b.length by omega))
    obtain ⟨ad', had, hc2⟩ := Kd.at_int HR.out (((2 + k0 : Nat) : Int)) (by omega) (by omega)
    obtain rfl := Option.some.inj had
    obtain ⟨ad', had, hc3⟩ := Kd.at_int HR.out (((2 + k0 + 1 : Nat) : Int)) (by omega) (by omega)
    obtain rfl := Option.some.inj had
    obtain ⟨y0, hy0⟩ : ∃ x, x = rd b (((2 + k0 : Nat) : Int)) := ⟨_, rfl⟩
    obtain ⟨y1, hy1⟩ : ∃ x, x = rd b (((2 + k0 + 1 : Nat) : Int)) := ⟨_, rfl⟩
    rw [← hy0] at hc2
    rw [← hy1] at hc3
    replace hy0 := Aside0.mk hy0
    replace hy1 := Aside0.mk hy1
    simp only [Int.toNat_natCast] at hc2 hc3
    replace hc3 : w.cell? ⟨(ad.add (2 + k0)).block, (ad.add (2 + k0)).off + 1, none⟩ = some (.int .u8 y1) := by
      have : ad.add (2 + k0 + 1) = ⟨(ad.add (2 + k0)).block, (ad.add (2 + k0)).off + 1, none⟩ := by unfold Addr.add; rw [if_neg (by omega), if_neg (by omega)]; rfl
      rw [← this]; exact hc3
    have HB := Aside0.mk (Below.refl w.heap.size w)
    go_wp2
    have hcc := HC.out
    have f1 : (2 + (k0 : Int)).toNat = 2 + k0 := by omega
    have f2 : (2 + (k0 : Int) + 2).toNat = 2 + k0 + 2 := by omega
    have f3 : (0 : Int) ≤ 2 + (k0 : Int) := by omega
    have f4 : 2 + (k0 : Int) ≤ (c : Int) := by omega
    have f5 : (0 : Int) ≤ 2 + (k0 : Int) + 2 := by omega
    have f6 : 2 + (k0 : Int) + 2 ≤ (c : Int) := by omega
    have f7 : 2 + (k0 : Int) ≤ 2 + (k0 : Int) + 2 := by omega
    have f8 : 2 + k0 ≤ c := by omega
    have f9 : 2 + k0 + 2 ≤ c := by omega
    have f10 : ¬ c = 2 + k0 := by omega
    have f11 : ¬ c = 0 := by omega
    have f12 : 2 + k0 + 2 - (2 + k0) = 2 := by omega
    have f13 : (2 : Int) ≤ 2 + (k0 : Int) := by omega
    have f14 : ¬ k0 = 0 := by omega
    have f15 : ¬ 2 + k0 = 2 := by omega
    have f16 : 2 ≤ 2 + k0 := by omega
    have f17 : 2 + k0 - 2 = k0 := by omega
    have hS : ∀ w' : World, Below w.heap.size w w' → (w'.cell? (ad.add (2 + k0)) = some (.int .u8 y0) ∧ w'.cell? ⟨(ad.add (2 + k0)).block, (ad.add (2 + k0)).off + 1, none⟩ = some (.int .u8 y1) ∧ Below w.heap.size w w') := fun w' h => ⟨(h.cell (World.block_lt_of_cell? w _ hc2)).trans hc2, (h.cell (World.block_lt_of_cell? w _ hc3)).trans hc3, h⟩
    have hLt : Aside0 ((b.take (2 + k0)).length = 2 + k0) := ⟨by rw [List.length_take]; omega⟩
    have hTl : Aside0 ((b.take (2 + k0)).length ≤ c ∧ (b.take (2 + k0)).length ≤ 1000000000) := ⟨by rw [hLt.out]; omega⟩
    cases hq : ((sumsF 0 0 (List.take (2 + k0) b)).1 % 256 == y0 && (sumsF 0 0 (List.take (2 + k0) b)).2 % 256 == y1)
    all_goals go_region_held3 (fun w' => w'.cell? (ad.add (2 + k0)) = some (.int .u8 y0) ∧ w'.cell? ⟨(ad.add (2 + k0)).block, (ad.add (2 + k0)).off + 1, none⟩ = some (.int .u8 y1) ∧ Below w.heap.size w w') (first | assumption | exact hS _ (below_drew (Below.refl _ _))) (first | (go_at_call 86; refine ((hLt.out ▸ sums_walk (some ad) c (b.take (2 + k0)) _ (Kd.C_below hT.out (And.right (And.right (by assumption)))) hTl.out.1 hTl.out.2 : Calls Try.prog 86 #[.slice (some ad) (2 + k0) c] _ _)).mono ?_; rintro e w1 ⟨rfl, hb⟩; have hS1 := hS _ (below_step (And.right (And.right (by assumption))) hb)))
    · have hBW := hS1.2.2
      go_wp2
      have e := HN.out (.inr (by unfold sumOk; rw [hk.out, ← hy0.out, ← hy1.out, hq, Bool.and_false]))
      go_ret3
      rw [e]
      exact ⟨none, 0, rfl, Nat.le_refl _, Kd.C_nil _ _, hBW⟩
    · have hBW := hS1.2.2
      go_wp2
      have e := HN.out (.inr (by unfold sumOk; rw [hk.out, ← hy0.out, ← hy1.out, hq, Bool.and_false]))
      go_ret3
      rw [e]
      exact ⟨none, 0, rfl, Nat.le_refl _, Kd.C_nil _ _, hBW⟩
    · have hBW := hS1.2.2
      have hcb := (hS1.2.2.cell (World.block_lt_of_cell? w _ hc1)).trans hc1
      go_wp2
      go_quiet (fail)
      go_wp2
      have e : firstF b = ((b.take (2 + k0)).drop 2, x1 == 1, 2 + k0 + 2) := by
        have hs : sumOk b = true := by
          unfold sumOk
          rw [hk.out, ← hy0.out, ← hy1.out, hq, Bool.and_true]
          exact decide_eq_true (by omega)
        unfold firstF
        rw [hh.out, hs, Bool.true_and, if_pos rfl, hk.out, ← hx1.out]
      have hm := Kd.C_mid (lo := 2) (hi := 2 + k0) HR.out (by omega) (by omega) HC.out
      have hml : ((b.take (2 + k0)).drop 2).length = k0 := by rw [List.length_drop, List.length_take]; omega
      rw [if_neg (by omega)] at hm
      go_ret3
      rw [e]
      refine ⟨some ⟨ad.block, ad.off + 2, none⟩, k0, ?_, ?_, hm, pw_below_drewN hBW _⟩
      · rw [hml]; rfl
      · rw [hml]; exact Nat.le_refl _
    · have hBW := hS1.2.2
      have hcb := (hS1.2.2.cell (World.block_lt_of_cell? w _ hc1)).trans hc1
      go_wp2
      go_quiet (fail)
      go_wp2
      have e : firstF b = ((b.take (2 + k0)).drop 2, x1 == 1, 2 + k0 + 2) := by
        have hs : sumOk b = true := by
          unfold sumOk
          rw [hk.out, ← hy0.out, ← hy1.out, hq, Bool.and_true]
          exact decide_eq_true (by omega)
        unfold firstF
        rw [hh.out, hs, Bool.true_and, if_pos rfl, hk.out, ← hx1.out]
      have hm := Kd.C_mid (lo := 2) (hi := 2 + k0) HR.out (by omega) (by omega) HC.out
      have hml : ((b.take (2 + k0)).drop 2).length = k0 := by rw [List.length_drop, List.length_take]; omega
      rw [if_neg (by omega)] at hm
      go_ret3
      rw [e]
      refine ⟨some ⟨ad.block, ad.off + 2, none⟩, k0, ?_, ?_, hm, pw_below_drewN hBW _⟩
      · rw [hml]; rfl
      · rw [hml]; exact Nat.le_refl _
end Go.Proofs.Ytnjidfgjldkkcaa.Q
/- slices.Clone at bytes, walked. -/
namespace Go.Proofs.Ytnjidfgjldkkcaa.Q
open Go.RowKit Go.Proofs.YtnjidfgjldkkcaaW.PrintWords Go.Proofs.YtnjidfgjldkkcaaW.PrintLast Go.Proofs.YtnjidfgjldkkcaaW.PrintMore
theorem nil36 (w : World) (a : Option Addr) (n c : Nat) : (binOp .eql 36 (.slice a n c) (.slice none 0 0)).run Try.prog w = .ok (.bool a.isNone) w := Lib.run_eql_slice_nil w 36 5 a n c 0 0 Try.underlying36
attribute [local go_sem] nil36
def slices_Clone_byte_byte.f (l : List Int) : Option (List Int) := if l.length ≤ 1000000000 then some l else none
set_option maxRecDepth 100000 in
set_option maxHeartbeats 4000000 in
theorem slices_Clone_byte_byte.calls (A0 : Option Addr) (c0 : Nat) (l0 : List Int) (r : List Int) (w : World) (hr0 : Kd.C (Kd.int .u8) w A0 l0.length l0) (hc0 : l0.length ≤ c0) (h : slices_Clone_byte_byte.f l0 = some r) :
    Calls Try.prog 58 #[.slice A0 l0.length c0] w fun e w' => ∃ v0_ : Value, e = .returned v0_ ∧ Kd.R (Kd.int .u8) 5 w' w.heap.size (fun _ => True) v0_ r ∧ Below w.heap.size w w' := by
  unfold slices_Clone_byte_byte.f at h
  split at h
  · rename_i hl
    obtain rfl := Option.some.inj h
    go_enter Try.func58, Try.ntmps58
    cases A0 with
    | none =>
      obtain ⟨h1, _, h3⟩ := hr0
      have hl0 : l0 = [] := by
        rcases Nat.eq_zero_or_pos l0.length with h0 | h0
        · exact List.eq_nil_of_length_eq_zero h0
        · obtain ⟨ad, h, _⟩ := h3 h0
          cases h
      subst hl0
      go_wp2
      go_ret
      exact ⟨.slice none 0 0, rfl, Kd.R_nil _ _ _ _ _, Below.refl _ _⟩
    | some ad =>
      have HR := Aside0.mk (Kd.C_below hr0 (below_alloc (Below.refl w.heap.size w) (.cells #[] 5)))
      have HB := Aside0.mk (below_alloc (Below.refl w.heap.size w) (.cells #[] 5))
      have HL := Aside0.mk hl
      clear hr0 hl
      go_wp2_with ((with_reducible refine gate_builtin (b := .append) (xs := #[.tmp 5, .tmp 6]) rfl ?_); at_builtin; refine Kd.R_append_rows (Kd.int .u8) (w0 := w) w.heap.size rfl (.tmp 5) (.tmp 6) 36 5 (.int .u8 0) 1 rfl Try.underlying36 info5 rfl (by decide) (by omega) _ [] l0 (some ad) l0.length c0 (fun _ => True) (fun _ => False) rfl rfl (R_empty (Kd.int .u8) 5 w) HR.out (fun x cs h => h) (fun _ h => h.elim) (fun _ _ => trivial) HB.out (below_size HB.out) (by have := HL.out; simp only [List.length_nil]; omega) ?_; intro v1 w1 ho hb hg hat; replace ho := Aside0.mk ho; replace hb := Aside0.mk hb; clear hg hat)
      go_ret
      exact ⟨v1, rfl, ho.out, hb.out⟩
  · cases h
end Go.Proofs.Ytnjidfgjldkkcaa.Q
/- wal.Read, wal.Scan, walked. -/
namespace Go.Proofs.Ytnjidfgjldkkcaa.Q
open Go.RowKit Go.Proofs.YtnjidfgjldkkcaaW.PrintWords Go.Proofs.YtnjidfgjldkkcaaW.PrintLast Go.Proofs.YtnjidfgjldkkcaaW.PrintMore
theorem R_apart {α β : Type} {d : Kd α} {d' : Kd β} {e e' : Nat} {w : World} {b b' : Nat} {ok ok' : Nat → Prop} {v u : Value} {xs : List α} {ys : List β} (h : d.R e w b ok v xs) (hu : d'.R e' w b' ok' u ys) (ht : ∀ q, q ∈ e :: d.E → q ≠ e') : d.R e w b (fun k => ok k ∧ some k ≠ u.ownBlock) v xs := by
  obtain ⟨_, inner, ho, _⟩ := hu
  refine Kd.R_mono (Kd.R_bound h) (fun k hk => ⟨hk.1, fun he => ?_⟩)
  obtain ⟨_, _, _, q, hq, cells, hc⟩ := hk
  obtain ⟨cells', hc'⟩ := own_typed ho k he.symm
  rw [hc] at hc'
  injection hc' with hc'
  injection hc' with _ hc'
  exact ht q hq hc'
def readF (b : List Int) : Nat → List (List (List Int)) → List (List Int) → Nat → Nat → List (List (List Int)) × Nat
  | 0, bs, _, used, _ => (bs, used)
  | f + 1, bs, ba, used, n => if (firstF (b.drop n)).2.2 = 0 then (bs, used)
    else if (firstF (b.drop n)).2.1 = true then readF b f (bs ++ [ba ++ [(firstF (b.drop n)).1]]) [] (n + (firstF (b.drop n)).2.2) (n + (firstF (b.drop n)).2.2)
    else readF b f bs (ba ++ [(firstF (b.drop n)).1]) used (n + (firstF (b.drop n)).2.2)
theorem firstF_wide (b : List Int) : (firstF b).2.2 ≤ b.length := by
  unfold firstF
  by_cases h : (headOk b && sumOk b) = true
  · rw [if_pos h]
    rw [Bool.and_eq_true] at h
    have := h.2
    unfold sumOk at this
    rw [Bool.and_eq_true, decide_eq_true_eq] at this
    exact this.1
  · rw [if_neg h]; exact Nat.zero_le _
theorem firstF_nil : firstF [] = ([], false, 0) := rfl
theorem firstF_rec (b : List Int) : (firstF b).1.length ≤ b.length := by
  unfold firstF
  by_cases h : (headOk b && sumOk b) = true
  · rw [if_pos h]; simp only [List.length_drop, List.length_take]; omega
  · rw [if_neg h]; exact Nat.zero_le _
abbrev kB : Kd (List Int) := Kd.slice 5 (Kd.int .u8)
abbrev kBB : Kd (List (List Int)) := Kd.slice 36 kB
theorem first_walk' (A : Option Addr) (c m : Nat) (b : List Int) (rc : List Int) (last : Bool) (wd : Nat) (w : World) (hr : Kd.C (Kd.int .u8) w A b.length b) (hc : b.length ≤ c) (hl : b.length ≤ 1000000) (hm : b.length = m) (hrr : (rc, last, wd) = firstF b) :
    Calls Try.prog 74 #[.slice A m c] w fun e w' => ∃ A' c', e = .returned (.tuple #[.slice A' rc.length c', .bool last, .int .i64 (wd : Int)]) ∧ rc.length ≤ c' ∧ Kd.C (Kd.int .u8) w A' rc.length rc ∧ Below w.heap.size w w' := by
  subst hm
  have := first_walk A c b w hr hc hl
  rw [← hrr] at this
  exact this
set_option maxRecDepth 100000 in
set_option maxHeartbeats 8000000 in
theorem read_walk (A : Option Addr) (c : Nat) (b : List Int) (w : World) (hr : Kd.C (Kd.int .u8) w A b.length b) (hc : b.length ≤ c) (hl : b.length ≤ 1000000) :
    Calls Try.prog 56 #[.slice A b.length c] w fun e w' => ∃ v, e = .returned (.tuple #[v, .int .i64 ((readF b (b.length + 1) [] [] 0 0).2 : Int)]) ∧ Kd.R kBB 35 w' w.heap.size (fun _ => True) v (readF b (b.length + 1) [] [] 0 0).1 ∧ Below w.heap.size w w' := by
  have HR := Aside0.mk hr
  have HC := Aside0.mk hc
  have HL := Aside0.mk hl
  clear hr hc hl
  go_enter Try.func56, Try.ntmps56
  go_wp2
  go_loopw [2, 3, 4, 5] (fun v2 v3 v4 v5 wr => ∃ (f n used : Nat) (bs : List (List (List Int))) (ba : List (List Int)), v3 = .int .i64 used ∧ v5 = .int .i64 n ∧ Aside0 (n ≤ b.length) ∧ Aside0 (b.length < n + f) ∧ Aside0 (readF b f bs ba used n = readF b (b.length + 1) [] [] 0 0) ∧ Aside0 (bs.length ≤ n) ∧ Aside0 (ba.length ≤ n) ∧ Aside0 (Kd.R kBB 35 wr w.heap.size (fun k => True ∧ some k ≠ v4.ownBlock) v2 bs) ∧ Aside0 (Kd.R kB 36 wr w.heap.size (fun _ => True) v4 ba) ∧ Aside0 (Below w.heap.size w wr)) (fun _ _ _ v5 _ => b.length - (intOf v5).toNat)
  case atStart => exact ⟨b.length + 1, 0, 0, [], [], rfl, rfl, ⟨Nat.zero_le _⟩, ⟨by omega⟩, ⟨rfl⟩, ⟨Nat.zero_le _⟩, ⟨Nat.zero_le _⟩, ⟨Kd.R_nil _ _ _ _ _⟩, ⟨Kd.R_nil _ _ _ _ _⟩, ⟨Below.refl _ _⟩⟩
  case round =>
    obtain ⟨f, n, used, bs, ba, rfl, rfl, hn, hf, hs, hbl, hal, HO2, HO4, HB⟩ := hrel
    have hn' := hn.out
    have hc' := HC.out
    obtain ⟨g, rfl⟩ : ∃ g, f = g + 1 := ⟨f - 1, by have := hf.out; omega⟩
    obtain ⟨r, hrr⟩ : ∃ r, Aside0 (r = firstF (b.drop n)) := ⟨_, ⟨rfl⟩⟩
    have hw := Aside0.mk (firstF_wide (b.drop n))
    have hrc := Aside0.mk (firstF_rec (b.drop n))
    have hlen : Aside0 ((b.drop n).length = b.length - n) := ⟨List.length_drop⟩
    have hstep : Aside0 ((if r.2.2 = 0 then (bs, used) else if r.2.1 = true then readF b g (bs ++ [ba ++ [r.1]]) [] (n + r.2.2) (n + r.2.2) else readF b g bs (ba ++ [r.1]) used (n + r.2.2)) = readF b (b.length + 1) [] [] 0 0) := ⟨by rw [← hs.out, hrr.out]; rfl⟩
    have hD := Aside0.mk (Kd.C_drop (m := n) (c := c) (Kd.C_below HR.out HB.out) hn' hc')
    have hlc : Aside0 (b.length - n ≤ c - n ∧ b.length - n ≤ 1000000) := ⟨by have := HL.out; omega⟩
    by_cases hcn : c = n
    · have hz : Aside0 (r = ([], false, 0)) := ⟨by rw [hrr.out, List.drop_of_length_le (by omega)]; rfl⟩
      rw [if_pos hcn] at hD
      have hex : Aside0 ((bs, used) = readF b (b.length + 1) [] [] 0 0) := ⟨by have := hstep.out; rw [hz.out, if_pos rfl] at this; exact this⟩
      rw [hz.out] at hrr
      go_wp2_with (go_at_call 74; refine (first_walk' A 0 (b.length - n) (b.drop n) [] false 0 _ hD.out (by rw [hlen.out]; omega) (by rw [hlen.out]; exact hlc.out.2) hlen.out hrr.out).mono ?_; rintro e w1 ⟨A', c', rfl, hcr, hCr, hb⟩; have HB1 := Aside0.mk (below_step HB.out hb); have HO21 := Aside0.mk (Kd.R_drop (Kd.R_below HO2.out hb)); clear hcr hCr hb)
      go_ret2
      rw [← hex.out]
      exact ⟨_, rfl, HO21.out, HB1.out⟩
    · rw [if_neg hcn, show (Kd.int .u8).sz = 1 from rfl, Nat.mul_one] at hD
      obtain ⟨rc, last, wd⟩ := r
      by_cases hwd : wd = 0
      · subst hwd
        have hex : Aside0 ((bs, used) = readF b (b.length + 1) [] [] 0 0) := ⟨by have := hstep.out; rw [if_pos rfl] at this; exact this⟩
        go_wp2_with (go_at_call 74; refine (first_walk' (Option.map (fun x => x.add n) A) (c - n) (b.length - n) (b.drop n) rc _ _ _ hD.out (by rw [hlen.out]; exact hlc.out.1) (by rw [hlen.out]; exact hlc.out.2) hlen.out hrr.out).mono ?_; rintro e w1 ⟨A', c', rfl, hcr, hCr, hb⟩; have HB1 := Aside0.mk (below_step HB.out hb); have HO21 := Aside0.mk (Kd.R_below HO2.out hb); have HO41 := Aside0.mk (Kd.R_below HO4.out hb); have HCR := Aside0.mk (Kd.C_below hCr hb); have hcr' := Aside0.mk hcr; clear hcr hCr hb)
        go_ret2
        rw [← hex.out]
        exact ⟨_, rfl, Kd.R_drop HO21.out, HB1.out⟩
      · have hwd' : ((wd : Int) == 0) = false := by simp; omega
        have hrl : Aside0 (rc.length ≤ 1000000000) := ⟨by have h1 := hrc.out; rw [← hrr.out] at h1; replace h1 : rc.length ≤ _ := h1; have := hlen.out; have := HL.out; omega⟩
        have hwb : n + wd ≤ b.length := by have h1 := hw.out; rw [← hrr.out] at h1; replace h1 : wd ≤ _ := h1; have := hlen.out; omega
        have hbm : b.length ≤ 1000000 := HL.out
        cases last
        · have hex : Aside0 (readF b g bs (ba ++ [rc]) used (n + wd) = readF b (b.length + 1) [] [] 0 0) := ⟨by have := hstep.out; rw [if_neg hwd, if_neg (by simp)] at this; exact this⟩
          go_wp2_with (first | (go_at_call 74; refine (first_walk' (Option.map (fun x => x.add n) A) (c - n) (b.length - n) (b.drop n) rc _ _ _ hD.out (by rw [hlen.out]; exact hlc.out.1) (by rw [hlen.out]; exact hlc.out.2) hlen.out hrr.out).mono ?_; rintro e w1 ⟨A', c', rfl, hcr, hCr, hb⟩; have HB1 := Aside0.mk (below_step HB.out hb); have HO21 := Aside0.mk (Kd.R_below HO2.out hb); have HO41 := Aside0.mk (Kd.R_below HO4.out hb); have HCR := Aside0.mk (Kd.C_below hCr hb); have hcr' := Aside0.mk hcr; clear hcr hCr hb) | (go_at_call 58; refine (slices_Clone_byte_byte.calls A' c' rc rc _ HCR.out hcr'.out (by unfold slices_Clone_byte_byte.f; rw [if_pos hrl.out])).mono ?_; rintro e w2 ⟨vc, rfl, hoc, hb2⟩; obtain ⟨Ac, cc, rfl⟩ := Kd.R_slice hoc; have HB2 := Aside0.mk (below_step HB1.out hb2); have HO22 := Aside0.mk (Kd.R_below HO21.out hb2); have HO42 := Aside0.mk (Kd.R_below HO41.out hb2); have HOc := Aside0.mk (Kd.R_lower (Kd.R_mono (ok' := fun k => w1.heap.size ≤ k) (Kd.R_bound hoc) (fun k hk => hk.2.1)) HB1.out.size); have hap : Aside0 (∀ k, w1.heap.size ≤ k → True ∧ some k ≠ u4.ownBlock) := ⟨fun k hk => ⟨trivial, fun he => (by obtain ⟨_, inner, ho, _⟩ := HO41.out; have := own_lt ho k he.symm; omega)⟩⟩; clear hoc hb2) | ((with_reducible refine gate_builtin (b := .append) (xs := #[.tmp 21, .tmp 24]) rfl ?_); at_builtin; refine Kd.R_append kB (w0 := w) w.heap.size rfl (.tmp 21) (.tmp 24) 35 36 (.slice none 0 0) 24 rfl Try.underlying35 info36 rfl (by decide) (by omega) u4 ba rc [.slice Ac rc.length cc] (fun _ => True) (fun k => w1.heap.size ≤ k) rfl rfl ⟨_, rfl, HOc.out⟩ hap.out (fun _ _ => trivial) HO42.out HB2.out (below_size HB2.out) (by have := hal.out; have := HL.out; omega) ?_; intro v4 w3 ho hb hg hat; obtain ⟨A4, c4, rfl⟩ := Kd.R_slice ho; rw [List.length_append, List.length_singleton] at ho hat; have HO43 := Aside0.mk ho; have HB3 := Aside0.mk hb; have HO23 := Aside0.mk (Kd.R_after HO22.out hg hat); clear ho hb hg hat))
          go_roundw
          case rel => exact ⟨g, n + wd, used, bs, ba ++ [rc], rfl, by simp, ⟨hwb⟩, ⟨by have := hf.out; omega⟩, hex, ⟨by have := hbl.out; omega⟩, ⟨by have := hal.out; rw [List.length_append, List.length_singleton]; omega⟩, HO23, HO43, HB3⟩
          case measure => simp [intOf]; omega
        · have hex : Aside0 (readF b g (bs ++ [ba ++ [rc]]) [] (n + wd) (n + wd) = readF b (b.length + 1) [] [] 0 0) := ⟨by have := hstep.out; rw [if_neg hwd, if_pos rfl] at this; exact this⟩
          go_wp2_with (first | (go_at_call 74; refine (first_walk' (Option.map (fun x => x.add n) A) (c - n) (b.length - n) (b.drop n) rc _ _ _ hD.out (by rw [hlen.out]; exact hlc.out.1) (by rw [hlen.out]; exact hlc.out.2) hlen.out hrr.out).mono ?_; rintro e w1 ⟨A', c', rfl, hcr, hCr, hb⟩; have HB1 := Aside0.mk (below_step HB.out hb); have HO21 := Aside0.mk (Kd.R_below HO2.out hb); have HO41 := Aside0.mk (Kd.R_below HO4.out hb); have HCR := Aside0.mk (Kd.C_below hCr hb); have hcr' := Aside0.mk hcr; clear hcr hCr hb) | (go_at_call 58; refine (slices_Clone_byte_byte.calls A' c' rc rc _ HCR.out hcr'.out (by unfold slices_Clone_byte_byte.f; rw [if_pos hrl.out])).mono ?_; rintro e w2 ⟨vc, rfl, hoc, hb2⟩; obtain ⟨Ac, cc, rfl⟩ := Kd.R_slice hoc; have HB2 := Aside0.mk (below_step HB1.out hb2); have HO22 := Aside0.mk (Kd.R_below HO21.out hb2); have HO42 := Aside0.mk (Kd.R_below HO41.out hb2); have HOc := Aside0.mk (Kd.R_lower (Kd.R_mono (ok' := fun k => w1.heap.size ≤ k) (Kd.R_bound hoc) (fun k hk => hk.2.1)) HB1.out.size); have hap : Aside0 (∀ k, w1.heap.size ≤ k → True ∧ some k ≠ u4.ownBlock) := ⟨fun k hk => ⟨trivial, fun he => (by obtain ⟨_, inner, ho, _⟩ := HO41.out; have := own_lt ho k he.symm; omega)⟩⟩; clear hoc hb2) | ((with_reducible refine gate_builtin (b := .append) (xs := #[.tmp 21, .tmp 24]) rfl ?_); at_builtin; refine Kd.R_append kB (w0 := w) w.heap.size rfl (.tmp 21) (.tmp 24) 35 36 (.slice none 0 0) 24 rfl Try.underlying35 info36 rfl (by decide) (by omega) u4 ba rc [.slice Ac rc.length cc] (fun _ => True) (fun k => w1.heap.size ≤ k) rfl rfl ⟨_, rfl, HOc.out⟩ hap.out (fun _ _ => trivial) HO42.out HB2.out (below_size HB2.out) (by have := hal.out; have := HL.out; omega) ?_; intro v4 w3 ho hb hg hat; obtain ⟨A4, c4, rfl⟩ := Kd.R_slice ho; rw [List.length_append, List.length_singleton] at ho hat; have HO43 := Aside0.mk ho; have HB3 := Aside0.mk hb; have HO23 := Aside0.mk (Kd.R_after HO22.out hg hat); clear ho hb hg hat) | ((with_reducible refine gate_builtin (b := .append) (xs := #[.tmp 30, .tmp 32]) rfl ?_); at_builtin; refine Kd.R_append kBB (w0 := w) w.heap.size rfl (.tmp 30) (.tmp 32) 41 35 (.slice none 0 0) 24 rfl Try.underlying41 info35 rfl (by decide) (by omega) u2 bs (ba ++ [rc]) [.slice A4 (ba.length + 1) c4] (fun _ => True) (fun k => True ∧ some k ≠ u2.ownBlock) rfl rfl ⟨_, rfl, R_apart HO43.out HO23.out (by intro q hq; simp [Kd.slice, Kd.int, Kd.scalar] at hq; omega)⟩ (fun k hk => hk) (fun _ _ => trivial) (Kd.R_drop HO23.out) HB3.out (below_size HB3.out) (by have := hbl.out; have := HL.out; omega) ?_; intro v5 w4 ho hb hg hat; have HO24 := Aside0.mk ho; have HB4 := Aside0.mk hb; clear ho hb hg hat))
          go_roundw
          case rel => exact ⟨g, n + wd, n + wd, bs ++ [ba ++ [rc]], [], by simp, by simp, ⟨hwb⟩, ⟨by have := hf.out; omega⟩, hex, ⟨by have := hbl.out; rw [List.length_append, List.length_singleton]; omega⟩, ⟨Nat.zero_le _⟩, ⟨Kd.R_apart_nil HO24.out⟩, ⟨Kd.R_nil _ _ _ _ _⟩, HB4⟩
          case measure => simp [intOf]; omega
def scanF (b : List Int) : List (List (List Int)) × Int × Int := if 1200 < b.length then ([], 0, 1) else ((readF b (b.length + 1) [] [] 0 0).1, ((readF b (b.length + 1) [] [] 0 0).2 : Int), 0)
def wal_Scan.f (b : List Int) : Option (List (List (List Int)) × Int × Int) := some (scanF b)
set_option maxRecDepth 100000 in
set_option maxHeartbeats 8000000 in
theorem wal_Scan.calls (A0 : Option Addr) (c0 : Nat) (l0 : List Int) (r1 : List (List (List Int))) (r2 : Int) (r3 : Int) (w : World) (hr0 : Kd.C (Kd.int .u8) w A0 l0.length l0) (hc0 : l0.length ≤ c0) (h : wal_Scan.f l0 = some (r1, r2, r3)) :
    Calls Try.prog 30 #[.slice A0 l0.length c0] w fun e w' => ∃ v0_ : Value, e = .returned (.tuple #[v0_, .int .i64 r2, .int .i64 r3]) ∧ Kd.R kBB 35 w' w.heap.size (fun _ => True) v0_ r1 ∧ Below w.heap.size w w' := by
  replace h := Option.some.inj h
  unfold scanF at h
  have HR := Aside0.mk hr0
  have HC := Aside0.mk hc0
  clear hr0 hc0
  go_enter Try.func30, Try.ntmps30
  by_cases h1 : 1200 < l0.length
  · rw [if_pos h1] at h
    simp only [Prod.mk.injEq] at h
    obtain ⟨rfl, rfl, rfl⟩ := h
    go_wp2
    go_ret3
    exact ⟨_, rfl, Kd.R_nil _ _ _ _ _, Below.refl _ _⟩
  · rw [if_neg h1] at h
    simp only [Prod.mk.injEq] at h
    obtain ⟨rfl, rfl, rfl⟩ := h
    go_wp2_with (go_at_call 56; refine (read_walk A0 c0 l0 _ HR.out HC.out (by omega)).mono ?_; rintro e w1 ⟨v, rfl, ho, hb⟩; have HO := Aside0.mk ho; have HB := Aside0.mk hb; clear ho hb)
    go_ret3
    exact ⟨_, rfl, HO.out, HB.out⟩
end Go.Proofs.Ytnjidfgjldkkcaa.Q
/- store.batch, walked. -/
namespace Go.Proofs.Ytnjidfgjldkkcaa.Q
open Go.RowKit Go.Proofs.YtnjidfgjldkkcaaW.PrintWords Go.Proofs.YtnjidfgjldkkcaaW.PrintLast Go.Proofs.YtnjidfgjldkkcaaW.PrintMore Go.Proofs.Ytnjidfgjldkkcaa.Plain
def batchF (l : List S69) : List Int := packF (l.map recordF)
theorem recordF_len (r : S69) (h : r.f0.size ≤ 20 ∧ r.f1.size ≤ 20) : (recordF r).length ≤ 41 := by
  unfold recordF
  rw [List.length_cons, List.length_append, bytesOf_length, bytesOf_length]
  omega
set_option maxRecDepth 100000 in
set_option maxHeartbeats 8000000 in
theorem batch_walk (A : Option Addr) (c : Nat) (l : List S69) (w : World) (hr : Kd.C k69 w A l.length l) (hc : l.length ≤ c) (hl : l.length ≤ 1000) (hs : ∀ r ∈ l, r.f0.size ≤ 20 ∧ r.f1.size ≤ 20) :
    Calls Try.prog 92 #[.slice A l.length c] w fun e w' => ∃ v, e = .returned v ∧ (Kd.int .u8).R 5 w' w.heap.size (fun _ => True) v (batchF l) ∧ Below w.heap.size w w' := by
  have HR := Aside0.mk hr
  have HC := Aside0.mk hc
  have HS := Aside0.mk hs
  clear hr hc hs
  go_enter Try.func92, Try.ntmps92
  go_wp2
  go_loopw [3, 8] (fun v vi wr => ∃ (i : Nat), vi = .int .i64 i ∧ Aside0 (i ≤ l.length) ∧ Aside0 (Kd.R kB 36 wr w.heap.size (fun _ => True) v ((l.take i).map recordF)) ∧ Aside0 (Below w.heap.size w wr)) (fun _ vi _ => l.length - (intOf vi).toNat)
  case atStart => exact ⟨0, rfl, ⟨Nat.zero_le _⟩, ⟨Kd.R_nil _ _ _ _ _⟩, ⟨Below.refl _ _⟩⟩
  case round =>
    obtain ⟨i, rfl, hi, HO, HB⟩ := hrel
    have hi' := hi.out
    by_cases hlt : i < l.length
    · obtain ⟨ad, rfl, x0, x1⟩ := at_T69 (Kd.C_below HR.out HB.out) (i : Int) (by omega) (by omega)
      obtain ⟨r, hr⟩ : ∃ r, Aside0 (r = rd_T69 l (i : Int)) := ⟨_, ⟨rfl⟩⟩
      rw [← hr.out] at x0 x1
      rw [Int.toNat_natCast] at x0 x1
      have hrs : Aside0 (r.f0.size ≤ 20 ∧ r.f1.size ≤ 20) := ⟨by rw [hr.out, rd69 hlt]; exact HS.out _ (List.getElem_mem hlt)⟩
      have htk : Aside0 ((l.take i).map recordF ++ [recordF r] = (l.take (i + 1)).map recordF) := ⟨by rw [hr.out, rd69 hlt, List.take_succ_eq_append_getElem hlt, List.map_append]; rfl⟩
      have hln : Aside0 (((l.take i).map recordF).length = i) := ⟨by rw [List.length_map, List.length_take]; omega⟩
      clear hr
      obtain ⟨k, u⟩ := r
      generalize (l.take i).map recordF = out at *
      go_wp2_with (first | (go_at_call 95; refine (record_walk k u _ hrs.out.1 hrs.out.2).mono ?_; rintro e_ w1 ⟨v1, rfl, ho, hb⟩; obtain ⟨A1, c1, rfl⟩ := Kd.R_slice ho; have HD := Aside0.mk (below_step (below_alloc (Below.refl _ _) _ : Below wr.heap.size wr (wr.alloc (.cells #[.string k, .string u] 69))) hb); have HB1 := Aside0.mk (below_step HB.out HD.out); have HO1 := Aside0.mk (Kd.R_mono (ok' := fun q => wr.heap.size ≤ q) (Kd.R_lower (Kd.R_bound ho) (base' := w.heap.size) (Nat.le_trans HB.out.size (by simp))) (fun q hq => (by have := hq.2.1; simp at this; omega))); have HO2 := Aside0.mk (Kd.R_below HO.out HD.out); have hap : Aside0 (∀ q, wr.heap.size ≤ q → True ∧ some q ≠ u3.ownBlock) := ⟨fun q hq => ⟨trivial, fun he => (by have := Kd.R_lt HO.out q he.symm; omega)⟩⟩; clear ho hb) | ((with_reducible refine gate_builtin (b := .append) (xs := #[.tmp 12, .tmp 15]) rfl ?_); at_builtin; refine Kd.R_append kB (w0 := w) w.heap.size rfl (.tmp 12) (.tmp 15) 35 36 (.slice none 0 0) 24 rfl Try.underlying35 info36 rfl (by decide) (by omega) u3 out (recordF ⟨k, u⟩) [.slice A1 (recordF ⟨k, u⟩).length c1] (fun _ => True) (fun q => wr.heap.size ≤ q) rfl rfl ⟨_, rfl, HO1.out⟩ hap.out (fun _ _ => trivial) HO2.out HB1.out (below_size HB1.out) (by have := hln.out; omega) ?_; intro v4 w3 ho hb hg hat; obtain ⟨A4, c4, rfl⟩ := Kd.R_slice ho; rw [List.length_append, List.length_singleton, htk.out] at ho; have HO3 := Aside0.mk ho; have HB3 := Aside0.mk hb; clear ho hb hg hat))
      go_roundw
      case rel => exact ⟨i + 1, by go_num, ⟨by omega⟩, HO3, HB3⟩
      case measure => simp [intOf]; omega
    · have hfull : Aside0 (l.take i = l) := ⟨List.take_of_length_le (by omega)⟩
      have hlm : Aside0 (∀ r ∈ l.map recordF, r.length ≤ 100) := ⟨fun r hr => by
        obtain ⟨q, hq, rfl⟩ := List.mem_map.1 hr
        have := recordF_len q (HS.out q hq)
        omega⟩
      have hln : Aside0 ((l.map recordF).length ≤ 1000) := ⟨by rw [List.length_map]; exact hl⟩
      have hbe : Aside0 (packF (l.map recordF) = batchF l) := ⟨rfl⟩
      rw [hfull.out] at HO
      clear hfull
      generalize l.map recordF = recs at *
      obtain ⟨A3, c3, rfl⟩ := Kd.R_slice HO.out
      have hcap := Aside0.mk (Kd.R_reads' HO.out)
      go_wp2_with (go_at_call 54; refine (of_walk A3 c3 recs _ hcap.out.2.2 hcap.out.2.1 (by have := hln.out; omega) hlm.out).mono ?_; rintro e w2 ⟨v1, rfl, ho, hb⟩; obtain ⟨A5, c5, rfl⟩ := Kd.R_slice ho; have HO5 := Aside0.mk (Kd.R_lower ho HB.out.size); have HB5 := Aside0.mk (below_step HB.out hb); clear ho hb)
      go_ret
      rw [← hbe.out]
      exact ⟨_, rfl, HO5.out, HB5.out⟩
end Go.Proofs.Ytnjidfgjldkkcaa.Q
/- The methods of disk.Disk, walked; the disk may be the head of another state (a store). -/
namespace Go.Proofs.Ytnjidfgjldkkcaa.Q
open Go.RowKit Go.Proofs.YtnjidfgjldkkcaaW.PrintWords Go.Proofs.YtnjidfgjldkkcaaW.PrintLast Go.Proofs.YtnjidfgjldkkcaaW.PrintMore
attribute [local go_sem] max2_int min2_int max_two min_two
/-- A disk at block g (type t; behind it the cells rest). -/
def DiskAt (t : Nat) (rest : List Value) (w : World) (base g : Nat) (v : Value) (s : Nat) (data : List Int) : Prop :=
  w.heap[g]? = some (.cells (v :: .int .i64 (s : Int) :: rest).toArray t (0, 0)) ∧ base ≤ g ∧ (Kd.int .u8).R 5 w base (fun _ => True) v data ∧ s ≤ data.length
theorem DiskAt.lt {t : Nat} {rest : List Value} {w : World} {base g : Nat} {v : Value} {s : Nat} {data : List Int} (h : DiskAt t rest w base g v s data) : base ≤ w.heap.size := Nat.le_of_lt (Nat.lt_of_le_of_lt h.2.1 (blk_lt h.1))
theorem DiskAt.cells {t : Nat} {rest : List Value} {w : World} {base g : Nat} {v : Value} {s : Nat} {data : List Int} (h : DiskAt t rest w base g v s data) :
    w.cell? ⟨g, 0, none⟩ = some v ∧ w.cell? ⟨g, 1, none⟩ = some (.int .i64 (s : Int)) ∧ w.frozen? ⟨g, 0, none⟩ = false ∧ w.frozen? ⟨g, 1, none⟩ = false :=
  ⟨by rw [blk_cell h.1]; rfl, by rw [blk_cell h.1]; rfl, blk_frozen h.1 0, blk_frozen h.1 1⟩
theorem DiskAt.keep {t : Nat} {rest : List Value} {w w' : World} {base B g : Nat} {v : Value} {s : Nat} {data : List Int} {T : List Nat} (h : DiskAt t rest w base g v s data) (hm : ModT T B w w') (ht : t ∉ T) (h5 : 5 ∉ T) : DiskAt t rest w' base g v s data :=
  ⟨hm.keep h.1 ht, h.2.1, hm.R h.2.2.1 (by intro q hq; simp [Kd.int, Kd.scalar] at hq; subst hq; exact h5), h.2.2.2⟩
/-- How a method of a disk ends. -/
def DkPost (t : Nat) (rest : List Value) (base g : Nat) (w : World) (r : Value) (s : Nat) (d : List Int) (e : Ending) (w' : World) : Prop := ∃ v', e = .returned r ∧ DiskAt t rest w' base g v' s d ∧ ModT [t, 5] base w w'
def wrCode (d b : List Int) : Int := if 1200 < d.length + b.length then 10 else 0
def wrData (d b : List Int) : List Int := if 1200 < d.length + b.length then d else d ++ b
set_option maxRecDepth 100000 in
set_option maxHeartbeats 4000000 in
theorem disk_Write (t : Nat) (rest : List Value) (base g : Nat) (v : Value) (s : Nat) (data b : List Int) (A : Option Addr) (c m : Nat) (w : World) (hd : DiskAt t rest w base g v s data) (ht : t ≠ 5)
    (hC : (Kd.int .u8).C w A m b) (hc : m ≤ c) (hm : b.length = m) (hl : data.length + b.length ≤ 1000000000000000000) :
    Calls Try.prog 87 #[.pointer (some ⟨g, 0, none⟩), .slice A m c] w (DkPost t rest base g w (.int .i64 (wrCode data b)) s (wrData data b)) := by
  subst hm
  have HD := Aside0.mk hd
  have HC := Aside0.mk hC
  obtain ⟨A0, c0, rfl⟩ := Kd.R_slice hd.2.2.1
  obtain ⟨h0, h1, hf0, hf1⟩ := hd.cells
  clear hd hC
  go_enter Try.func87, Try.ntmps87
  by_cases hlt : 1200 < data.length + b.length
  · have hr : Aside0 (wrCode data b = 10 ∧ wrData data b = data) := ⟨by unfold wrCode wrData; rw [if_pos hlt, if_pos hlt]; exact ⟨rfl, rfl⟩⟩
    have hlt' : (1200 : Int) < (data.length : Int) + (b.length : Int) := by omega
    go_wp2
    go_ret
    rw [hr.out.1, hr.out.2]
    exact ⟨_, rfl, HD.out, ModT.refl _ _ _⟩
  · have hr : Aside0 (wrCode data b = 0 ∧ wrData data b = data ++ b) := ⟨by unfold wrCode wrData; rw [if_neg hlt, if_neg hlt]; exact ⟨rfl, rfl⟩⟩
    have hlt' : (data.length : Int) + (b.length : Int) ≤ 1200 := by omega
    go_wp2_with ((with_reducible refine gate_builtin (b := .append) (xs := #[.tmp 18, .tmp 19]) rfl ?_); at_builtin; refine Kd.R_append_rows (Kd.int .u8) (w0 := w) base rfl (.tmp 18) (.tmp 19) 36 5 (.int .u8 0) 1 rfl Try.underlying36 info5 rfl (by decide) (by omega) (.slice A0 data.length c0) data b A b.length c (fun _ => True) (fun _ => False) rfl rfl HD.out.2.2.1 HC.out (fun x cs h => h) (fun _ h => h.elim) (fun _ h => trivial) (Below.refl _ _) HD.out.lt (by omega) ?_; intro v1 w1 ho hb hg hat; obtain ⟨A1, c1, rfl⟩ := Kd.R_slice ho; rw [List.length_append] at ho; have HO := Aside0.mk ho; have HM := Aside0.mk (ModT.grown (T := [t, 5]) hg HD.out.2.2.1 (by simp) (Nat.le_refl base)); have HG := Aside0.mk (blk_grown HD.out.1 hg (Kd.R_ne HD.out.2.2.1 HD.out.1 (Ne.symm ht))); have f1 := blk_frozen HG.out 0; have g1 : w1.cell? ⟨g, 0, none⟩ = some (.slice A0 data.length c0) := (by rw [blk_cell HG.out]; rfl); clear ho hb hg hat)
    go_ret
    rw [hr.out.1, hr.out.2]
    exact ⟨_, rfl, ⟨by rw [heap_set1 HG.out]; rfl, HD.out.2.1, Kd.R_set HO.out HG.out (by intro q hq; simp [Kd.int, Kd.scalar] at hq; omega) _ _, by have := HD.out.2.2.2; rw [List.length_append]; omega⟩, HM.out.trans (ModT.set_ HG.out (by simp) HD.out.2.1 _)⟩
theorem noR5 {t : Nat} (ht : t ≠ 5) : ∀ q, q ∈ 5 :: (Kd.int .u8).E → q ≠ t := by
  intro q hq; simp [Kd.int, Kd.scalar] at hq; omega
set_option maxRecDepth 100000 in
set_option maxHeartbeats 4000000 in
theorem disk_Sync (t : Nat) (rest : List Value) (base g : Nat) (v : Value) (s : Nat) (data : List Int) (w : World) (hd : DiskAt t rest w base g v s data) (ht : t ≠ 5) :
    Calls Try.prog 88 #[.pointer (some ⟨g, 0, none⟩)] w (DkPost t rest base g w (.tuple #[]) data.length data) := by
  have HD := Aside0.mk hd
  obtain ⟨A0, c0, rfl⟩ := Kd.R_slice hd.2.2.1
  obtain ⟨h0, h1, hf0, hf1⟩ := hd.cells
  clear hd
  go_enter Try.func88, Try.ntmps88
  go_wp2
  go_end0
  exact ⟨_, rfl, ⟨by rw [heap_set1 HD.out.1]; rfl, HD.out.2.1, Kd.R_set HD.out.2.2.1 HD.out.1 (noR5 ht) _ _, Nat.le_refl _⟩, ModT.set_ HD.out.1 (by simp) HD.out.2.1 _⟩
set_option maxRecDepth 100000 in
set_option maxHeartbeats 4000000 in
theorem disk_Trim (t : Nat) (rest : List Value) (base g : Nat) (v : Value) (s : Nat) (data : List Int) (n : Nat) (w : World) (hd : DiskAt t rest w base g v s data) (ht : t ≠ 5) (hn : n ≤ data.length) :
    Calls Try.prog 89 #[.pointer (some ⟨g, 0, none⟩), .int .i64 (n : Int)] w (DkPost t rest base g w (.tuple #[]) n (data.take n)) := by
  have HD := Aside0.mk hd
  obtain ⟨A0, c0, rfl⟩ := Kd.R_slice hd.2.2.1
  have hc := (Kd.R_reads' hd.2.2.1).2.1
  obtain ⟨h0, h1, hf0, hf1⟩ := hd.cells
  clear hd
  go_enter Try.func89, Try.ntmps89
  go_wp2
  go_end0
  have h2 := ModT.set_ (T := [t, 5]) (j := 0) HD.out.1 (by simp) HD.out.2.1 (.slice A0 n c0)
  have e2 := heap_set1 (j := 0) (u := .slice A0 n c0) HD.out.1
  have e3 := heap_set1 (j := 1) (u := .int .i64 (n : Int)) e2
  have hl : (data.take n).length = n := by rw [List.length_take]; omega
  refine ⟨_, rfl, ⟨by rw [e3]; rfl, HD.out.2.1, ?_, by omega⟩, h2.trans (ModT.set_ e2 (by simp) HD.out.2.1 _)⟩
  have := Kd.R_take HD.out.2.2.1 hn
  exact Kd.R_set (Kd.R_set this HD.out.1 (noR5 ht) _ _) e2 (noR5 ht) _ _
def fallN (s n len : Nat) : Nat := s + min n (len - s)
set_option maxRecDepth 100000 in
set_option maxHeartbeats 4000000 in
theorem disk_Fall (t : Nat) (rest : List Value) (base g : Nat) (v : Value) (s : Nat) (data : List Int) (n : Nat) (w : World) (hd : DiskAt t rest w base g v s data) (ht : t ≠ 5) (hl : data.length ≤ 1000000000) :
    Calls Try.prog 90 #[.pointer (some ⟨g, 0, none⟩), .int .i64 (n : Int)] w (DkPost t rest base g w (.tuple #[]) (fallN s n data.length) (data.take (fallN s n data.length))) := by
  have HD := Aside0.mk hd
  obtain ⟨A0, c0, rfl⟩ := Kd.R_slice hd.2.2.1
  have hc := (Kd.R_reads' hd.2.2.1).2.1
  obtain ⟨h0, h1, hf0, hf1⟩ := hd.cells
  have hs := hd.2.2.2
  have HDr : Aside0 (DiskAt t rest w.drew base g (.slice A0 data.length c0) s data) := ⟨⟨hd.1, hd.2.1, Kd.R_drew hd.2.2.1, hd.2.2.2⟩⟩
  clear hd
  have e1 : Aside0 (IntKind.i64.wrap ((data.length : Int) - (s : Int)) = ((data.length - s : Nat) : Int)) := ⟨by rw [IntWalk.i64_in _ (by omega)]; omega⟩
  have e2 : Aside0 ((if ((data.length - s : Nat) : Int) < (n : Int) then ((data.length - s : Nat) : Int) else (n : Int)) = ((min n (data.length - s) : Nat) : Int)) := ⟨by split <;> omega⟩
  have e3 : Aside0 (IntKind.i64.wrap ((s : Int) + ((min n (data.length - s) : Nat) : Int)) = ((fallN s n data.length : Nat) : Int)) := ⟨by unfold fallN; rw [IntWalk.i64_in _ (by omega)]; omega⟩
  have hf : Aside0 (fallN s n data.length ≤ data.length) := ⟨by unfold fallN; omega⟩
  go_enter Try.func90, Try.ntmps90
  go_wp2
  go_still_tail 18, (by kernel_rfl)
  rw [e1.out, e2.out, e3.out]
  change wpList _ _ _ _ _ w.drew
  have hmd : Aside0 (ModT [t, 5] base w w.drew) := ⟨ModT.of_below (below_drew (Below.refl _ _))⟩
  generalize w.drew = w2 at HDr hmd ⊢
  go_wp2_with (go_at_call 89; refine (disk_Trim t rest base g _ s data _ _ HDr.out ht hf.out).mono ?_; rintro e w3 ⟨v', rfl, hd, hm⟩; have HD3 := Aside0.mk hd; have HM3 := Aside0.mk hm; clear hd hm)
  go_end0
  exact ⟨v', rfl, HD3.out, hmd.out.trans HM3.out⟩
/-- One move of a disk: its code; the bytes; how many are synced. -/
def dskStep (d : List Int) (s : Nat) (m : S72) : Int × List Int × Nat :=
  if m.f0 = 1 then (if 1200 < d.length + m.f1.length then (10, d, s) else (0, d ++ m.f1, s))
  else if m.f0 = 2 then (0, d, d.length)
  else if m.f0 = 3 then (if m.f2 < 0 then (2, d, s) else if (d.length : Int) < m.f2 then (2, d, s) else (0, d.take m.f2.toNat, m.f2.toNat))
  else if m.f0 = 4 then (if m.f2 < 0 then (2, d, s) else (0, d.take (fallN s m.f2.toNat d.length), fallN s m.f2.toNat d.length))
  else (3, d, s)
theorem DiskAt.box {t : Nat} {rest : List Value} {w : World} {base g : Nat} {v : Value} {s : Nat} {data : List Int} (h : DiskAt t rest w base g v s data) (o : Obj) : DiskAt t rest (w.alloc o) base g v s data := h.keep (ModT.alloc [] base w o) (by simp) (by simp)
theorem DiskAt.drewN {t : Nat} {rest : List Value} {w : World} {base g : Nat} {v : Value} {s : Nat} {data : List Int} (h : DiskAt t rest w base g v s data) (n : Nat) : DiskAt t rest (w.drewN n) base g v s data := h.keep (ModT.drewN [] base w n) (by simp) (by simp)
set_option maxRecDepth 100000 in
set_option maxHeartbeats 4000000 in
theorem disk_do (t : Nat) (rest : List Value) (base g : Nat) (v : Value) (s : Nat) (data : List Int) (m : S72) (A : Option Addr) (c : Nat) (w : World) (hd : DiskAt t rest w base g v s data) (ht : t ≠ 5)
    (hC : (Kd.int .u8).C w A m.f1.length m.f1) (hc : m.f1.length ≤ c) (hl : data.length ≤ 10000) (hm : m.f1.length ≤ 140737488351232) :
    Calls Try.prog 75 #[.pointer (some ⟨g, 0, none⟩), .agg #[.int .i64 m.f0, .slice A m.f1.length c, .int .i64 m.f2]] w (DkPost t rest base g w (.int .i64 (dskStep data s m).1) (dskStep data s m).2.2 (dskStep data s m).2.1) := by
  obtain ⟨k, b, n⟩ := m
  simp only at hC hc hm ⊢
  have HD := Aside0.mk hd
  have HC := Aside0.mk hC
  have h0 := hd.cells.1
  have h1 := hd.cells.2.1
  have hDs := hd.2.2.2
  have hg : Aside0 (g < w.heap.size) := ⟨blk_lt hd.1⟩
  have HM0 := fun o => Aside0.mk (ModT.alloc [t, 5] base w o)
  obtain ⟨A0, c0, rfl⟩ := Kd.R_slice hd.2.2.1
  clear hd hC
  have HD2 := fun o => Aside0.mk (HD.out.box o)
  have HC2 := fun o => Aside0.mk (Kd.C_alloc HC.out o)
  by_cases k1 : k = 1
  · subst k1
    have hr : Aside0 (dskStep data s ⟨1, b, n⟩ = (wrCode data b, wrData data b, s)) := ⟨by unfold dskStep wrCode wrData; rw [if_pos rfl]; split <;> rfl⟩
    go_enter Try.func75, Try.ntmps75
    go_wp2_with (go_at_call 87; refine (disk_Write t rest base g _ s data b A c _ _ (HD2 _).out ht (HC2 _).out hc rfl (by omega)).mono ?_; rintro e w3 ⟨v', rfl, hd, hm⟩; have HD3 := Aside0.mk hd; have HM3 := Aside0.mk hm; clear hd hm)
    go_ret
    rw [hr.out]
    exact ⟨v', rfl, HD3.out, (HM0 _).out.trans HM3.out⟩
  by_cases k2 : k = 2
  · subst k2
    have hr : Aside0 (dskStep data s ⟨2, b, n⟩ = (0, data, data.length)) := ⟨by unfold dskStep; rw [if_neg k1, if_pos rfl]⟩
    go_enter Try.func75, Try.ntmps75
    go_wp2_with (go_at_call 88; refine (disk_Sync t rest base g _ s data _ (HD2 _).out ht).mono ?_; rintro e w3 ⟨v', rfl, hd, hm⟩; have HD3 := Aside0.mk hd; have HM3 := Aside0.mk hm; clear hd hm)
    go_ret
    rw [hr.out]
    exact ⟨v', rfl, HD3.out, (HM0 _).out.trans HM3.out⟩
  by_cases k3 : k = 3
  · subst k3
    have hgl : g < w.heap.size := hg.out
    have hgn : ¬ g = w.heap.size := by omega
    by_cases n0 : n < 0
    · have hr : Aside0 (dskStep data s ⟨3, b, n⟩ = (2, data, s)) := ⟨by unfold dskStep; rw [if_neg k1, if_neg k2, if_pos rfl, if_pos n0]⟩
      go_enter Try.func75, Try.ntmps75
      go_wp2
      go_quiet (fail)
      go_wp2
      go_ret
      rw [hr.out]
      exact ⟨_, rfl, (HD2 _).out.drewN _, (HM0 _).out.trans (ModT.drewN _ _ _ _)⟩
    by_cases n1 : (data.length : Int) < n
    · have hr : Aside0 (dskStep data s ⟨3, b, n⟩ = (2, data, s)) := ⟨by unfold dskStep; rw [if_neg k1, if_neg k2, if_pos rfl, if_neg n0, if_pos n1]⟩
      go_enter Try.func75, Try.ntmps75
      go_wp2
      go_quiet (fail)
      go_wp2
      go_ret
      rw [hr.out]
      exact ⟨_, rfl, (HD2 _).out.drewN _, (HM0 _).out.trans (ModT.drewN _ _ _ _)⟩
    obtain ⟨j, rfl⟩ : ∃ j : Nat, n = j := ⟨n.toNat, by omega⟩
    have hr : Aside0 (dskStep data s ⟨3, b, (j : Int)⟩ = (0, data.take j, j)) := ⟨by unfold dskStep; rw [if_neg k1, if_neg k2, if_pos rfl, if_neg n0, if_neg n1, Int.toNat_natCast]⟩
    have hj : j ≤ data.length := by omega
    go_enter Try.func75, Try.ntmps75
    go_wp2
    go_quiet (fail)
    go_wp2_with (go_at_call 89; refine (disk_Trim t rest base g _ s data j _ ((HD2 _).out.drewN _) ht hj).mono ?_; rintro e w3 ⟨v', rfl, hd, hm⟩; have HD3 := Aside0.mk hd; have HM3 := Aside0.mk hm; clear hd hm)
    go_ret
    rw [hr.out]
    exact ⟨v', rfl, HD3.out, ((HM0 _).out.trans (ModT.drewN _ _ _ _)).trans HM3.out⟩
  by_cases k4 : k = 4
  · subst k4
    by_cases n0 : n < 0
    · have hr : Aside0 (dskStep data s ⟨4, b, n⟩ = (2, data, s)) := ⟨by unfold dskStep; rw [if_neg k1, if_neg k2, if_neg k3, if_pos rfl, if_pos n0]⟩
      go_enter Try.func75, Try.ntmps75
      go_wp2
      go_ret
      rw [hr.out]
      exact ⟨_, rfl, (HD2 _).out, (HM0 _).out⟩
    obtain ⟨j, rfl⟩ : ∃ j : Nat, n = j := ⟨n.toNat, by omega⟩
    have hr : Aside0 (dskStep data s ⟨4, b, (j : Int)⟩ = (0, data.take (fallN s j data.length), fallN s j data.length)) := ⟨by unfold dskStep; rw [if_neg k1, if_neg k2, if_neg k3, if_pos rfl, if_neg n0, Int.toNat_natCast]⟩
    go_enter Try.func75, Try.ntmps75
    go_wp2_with (go_at_call 90; refine (disk_Fall t rest base g _ s data j _ (HD2 _).out ht (by omega)).mono ?_; rintro e w3 ⟨v', rfl, hd, hm⟩; have HD3 := Aside0.mk hd; have HM3 := Aside0.mk hm; clear hd hm)
    go_ret
    rw [hr.out]
    exact ⟨v', rfl, HD3.out, (HM0 _).out.trans HM3.out⟩
  have hr : Aside0 (dskStep data s ⟨k, b, n⟩ = (3, data, s)) := ⟨by unfold dskStep; rw [if_neg k1, if_neg k2, if_neg k3, if_neg k4]⟩
  go_enter Try.func75, Try.ntmps75
  go_wp2
  go_ret
  rw [hr.out]
  exact ⟨_, rfl, (HD2 _).out, (HM0 _).out⟩
end Go.Proofs.Ytnjidfgjldkkcaa.Q
/- store.row, walked. -/
namespace Go.Proofs.Ytnjidfgjldkkcaa.Q
open Go.RowKit Go.Proofs.YtnjidfgjldkkcaaW.PrintWords Go.Proofs.YtnjidfgjldkkcaaW.PrintLast Go.Proofs.YtnjidfgjldkkcaaW.PrintMore
/-- The row of a record; false: it is none. -/
def rowF (b : List Int) : S69 × Bool :=
  if rd b 0 < 1 ∨ 20 < rd b 0 ∨ b.length < (rd b 0).toNat + 1 ∨ (rd b 0).toNat + 21 < b.length then (z69, false)
  else (⟨strOfNums ((b.take ((rd b 0).toNat + 1)).drop 1), strOfNums (b.drop ((rd b 0).toNat + 1))⟩, true)
def RowEnd (w : World) (r : S69 × Bool) (e : Ending) (w' : World) : Prop := e = .returned (.tuple #[.agg #[.string r.1.f0, .string r.1.f1], .bool r.2]) ∧ Below w.heap.size w w'
set_option maxRecDepth 100000 in
set_option maxHeartbeats 8000000 in
theorem row_walk (A : Option Addr) (c : Nat) (b : List Int) (w : World) (hr : Kd.C (Kd.int .u8) w A b.length b) (hc : b.length ≤ c) (h0 : 0 < b.length) (hb : 0 ≤ rd b 0 ∧ rd b 0 ≤ 255) (hl : b.length ≤ 1000) :
    Calls Try.prog 76 #[.slice A b.length c] w (RowEnd w (rowF b)) := by
  have HR := Aside0.mk hr
  obtain ⟨ad, rfl, hx⟩ := Kd.at_int hr 0 (by omega) (by omega)
  obtain ⟨n, hn⟩ : ∃ n, n = rd b 0 := ⟨_, rfl⟩
  rw [← hn] at hb hx
  replace hn := Aside0.mk hn
  obtain ⟨n, rfl⟩ : ∃ m : Nat, n = m := ⟨n.toNat, by omega⟩
  have hxb : ad.block < w.heap.size := by have := World.block_lt_of_cell? w _ hx; rwa [add_block] at this
  have hx0 : w.cell? ad = some (.int .u8 (n : Int)) := by
    rw [show (0 : Int).toNat = 0 from rfl] at hx
    have : ad.add 0 = ad := by unfold Addr.add; rw [if_pos rfl]
    rwa [this] at hx
  clear hr hx
  have hc' := hc
  have hr0 : Aside0 (rowF b = if n < 1 ∨ 20 < n ∨ b.length < n + 1 ∨ n + 21 < b.length then (z69, false) else (⟨strOfNums ((b.take (n + 1)).drop 1), strOfNums (b.drop (n + 1))⟩, true)) := ⟨by
    unfold rowF
    rw [← hn.out, Int.toNat_natCast]
    by_cases h : n < 1 ∨ 20 < n ∨ b.length < n + 1 ∨ n + 21 < b.length
    · rw [if_pos h, if_pos (by omega)]
    · rw [if_neg h, if_neg (by omega)]⟩
  by_cases h1 : n < 1
  · have e : Aside0 (rowF b = (z69, false)) := ⟨by rw [hr0.out, if_pos (.inl h1)]⟩
    have h1' : (n : Int) < 1 := by omega
    go_enter Try.func76, Try.ntmps76
    go_wp2
    refine bodyPost_ret (results_ct rfl _ _ w.heap.size 69 #[.string (⟨#[]⟩ : ByteArray), .string (⟨#[]⟩ : ByteArray)] (0, 0) _ rfl (blk_new w _) Try.underlying69 rfl (by kernel_rfl)) rfl ?_
    rw [e.out]
    exact ⟨rfl, below_alloc (Below.refl _ _) _⟩
  by_cases h2 : 20 < n
  · have e : Aside0 (rowF b = (z69, false)) := ⟨by rw [hr0.out, if_pos (.inr (.inl h2))]⟩
    have h1' : ¬ (n : Int) < 1 := by omega
    have h2' : (20 : Int) < (n : Int) := by omega
    go_enter Try.func76, Try.ntmps76
    go_wp2
    refine bodyPost_ret (results_ct rfl _ _ w.heap.size 69 #[.string (⟨#[]⟩ : ByteArray), .string (⟨#[]⟩ : ByteArray)] (0, 0) _ rfl (blk_new w _) Try.underlying69 rfl (by kernel_rfl)) rfl ?_
    rw [e.out]
    exact ⟨rfl, below_alloc (Below.refl _ _) _⟩
  by_cases h3 : b.length < n + 1
  · have e : Aside0 (rowF b = (z69, false)) := ⟨by rw [hr0.out, if_pos (.inr (.inr (.inl h3)))]⟩
    have h1' : ¬ (n : Int) < 1 := by omega
    have h2' : ¬ (20 : Int) < (n : Int) := by omega
    have h3' : (b.length : Int) < (n : Int) + 1 := by omega
    go_enter Try.func76, Try.ntmps76
    go_wp2
    refine bodyPost_ret (results_ct rfl _ _ w.heap.size 69 #[.string (⟨#[]⟩ : ByteArray), .string (⟨#[]⟩ : ByteArray)] (0, 0) _ rfl (blk_new w _) Try.underlying69 rfl (by kernel_rfl)) rfl ?_
    rw [e.out]
    exact ⟨rfl, below_alloc (Below.refl _ _) _⟩
  by_cases h4 : n + 21 < b.length
  · have e : Aside0 (rowF b = (z69, false)) := ⟨by rw [hr0.out, if_pos (.inr (.inr (.inr h4)))]⟩
    have h1' : ¬ (n : Int) < 1 := by omega
    have h2' : ¬ (20 : Int) < (n : Int) := by omega
    have h3' : ¬ (b.length : Int) < (n : Int) + 1 := by omega
    have h4' : (n : Int) + 1 + 20 < (b.length : Int) := by omega
    go_enter Try.func76, Try.ntmps76
    go_wp2
    refine bodyPost_ret (results_ct rfl _ _ w.heap.size 69 #[.string (⟨#[]⟩ : ByteArray), .string (⟨#[]⟩ : ByteArray)] (0, 0) _ rfl (blk_new w _) Try.underlying69 rfl (by kernel_rfl)) rfl ?_
    rw [e.out]
    exact ⟨rfl, below_alloc (Below.refl _ _) _⟩
  obtain ⟨k, hk⟩ : ∃ k, Aside0 (k = strOfNums ((b.take (n + 1)).drop 1)) := ⟨_, ⟨rfl⟩⟩
  obtain ⟨u, hu⟩ : ∃ u, Aside0 (u = strOfNums (b.drop (n + 1))) := ⟨_, ⟨rfl⟩⟩
  have e : Aside0 (rowF b = (⟨k, u⟩, true)) := ⟨by rw [hr0.out, if_neg (by omega), ← hk.out, ← hu.out]⟩
  have h1' : ¬ (n : Int) < 1 := by omega
  have h2' : ¬ (20 : Int) < (n : Int) := by omega
  have h3' : ¬ (b.length : Int) < (n : Int) + 1 := by omega
  have h4' : ¬ (n : Int) + 1 + 20 < (b.length : Int) := by omega
  obtain ⟨W0, hW0⟩ : ∃ W0, W0 = w.alloc (.cells #[.string ⟨#[]⟩, .string ⟨#[]⟩] 69) := ⟨_, rfl⟩
  have hW : Below w.heap.size w W0 := hW0 ▸ below_alloc (Below.refl _ _) _
  have HW := Aside0.mk hW
  have hh0 : W0.heap[w.heap.size]? = some (.cells #[.string ⟨#[]⟩, .string ⟨#[]⟩] 69 (0, 0)) := hW0 ▸ blk_new w _
  have HH := Aside0.mk hh0
  have z0 : W0.cell? ⟨w.heap.size, 0, none⟩ = some (.string ⟨#[]⟩) := by rw [blk_cell hh0]; rfl
  have z1 : W0.cell? ⟨w.heap.size, 1, none⟩ = some (.string ⟨#[]⟩) := by rw [blk_cell hh0]; rfl
  have f0 := blk_frozen hh0 0
  have f1 := blk_frozen hh0 1
  have hm1 := Kd.C_mid (lo := 1) (hi := n + 1) (Kd.C_drew (Kd.C_below HR.out hW)) (by omega) (by omega) hc'
  rw [if_neg (show ¬ c = 1 by omega)] at hm1
  have hcv1 := Kd.C_string (P := Try.prog) (A := some (ad.add 1)) (n := n) (c := c - 1) (xs := (b.take (n + 1)).drop 1) Try.underlying36 Try.underlying5 Try.underlying9 (by
    have := hm1
    rw [show ((b.take (n + 1)).drop 1).length = n by rw [List.length_drop, List.length_take]; omega] at this
    exact this)
  have hm2 := Kd.C_drop (m := n + 1) (c := c) (Kd.C_drew (Kd.C_below HR.out hW)) (by omega) hc'
  have hcv2 := Kd.C_string (P := Try.prog) (n := b.length - (n + 1)) (c := c - (n + 1)) (xs := b.drop (n + 1)) Try.underlying36 Try.underlying5 Try.underlying9 (by
    have := hm2
    rw [List.length_drop] at this
    exact this)
  rw [← hk.out] at hcv1
  rw [← hu.out] at hcv2
  have ea1 : ad.add 1 = ⟨ad.block, ad.off + 1, none⟩ := by unfold Addr.add; rw [if_neg (by omega)]
  have ea2 : ad.add (n + 1) = ⟨ad.block, ad.off + (n + 1), none⟩ := by unfold Addr.add; rw [if_neg (by omega)]
  rw [ea1] at hcv1
  have hdv1 : (convert 36 9 (.slice (some ⟨ad.block, ad.off + 1, none⟩) n (c - 1))).run Try.prog W0.drew = .ok (.string k) W0.drew := hcv1
  have hdv2 : (convert 36 9 (.slice (if c = n + 1 then some ad else some ⟨ad.block, ad.off + (n + 1), none⟩) (b.length - (n + 1)) (c - (n + 1)))).run Try.prog W0.drew = .ok (.string u) W0.drew := by
    have := hcv2
    rw [show (Kd.int .u8).sz = 1 from rfl, Nat.mul_one, Option.map_some, ea2] at this
    exact this
  clear hcv1 hcv2 ea1 ea2 hm1 hm2 hW hh0
  have a1 : (1 : Int) ≤ (n : Int) + 1 := by omega
  have a2 : (n : Int) + 1 ≤ (b.length : Int) := by omega
  have a3 : (0 : Int) ≤ (n : Int) + 1 := by omega
  have a4 : IntKind.i64.wrap ((n : Int) + 1) = (n : Int) + 1 := IntWalk.i64_in _ (by omega)
  have a5 : ((n : Int) + 1).toNat = n + 1 := by omega
  have a6 : ¬ c = 1 := by omega
  have a7 : n + 1 ≤ c := by omega
  have a8 : (n : Int) + 1 ≤ (c : Int) := by omega
  go_enter Try.func76, Try.ntmps76
  go_wp2
  rw [← hW0]
  clear hW0
  go_still_tail 11, (by kernel_rfl)
  change wpList _ _ _ _ _ W0.drew
  have y0 : W0.drew.cell? ⟨w.heap.size, 0, none⟩ = some (.string ⟨#[]⟩) := z0
  have y1 : W0.drew.cell? ⟨w.heap.size, 1, none⟩ = some (.string ⟨#[]⟩) := z1
  have g0 : W0.drew.frozen? ⟨w.heap.size, 0, none⟩ = false := f0
  have g1 : W0.drew.frozen? ⟨w.heap.size, 1, none⟩ = false := f1
  have HH' : Aside0 (W0.drew.heap[w.heap.size]? = some (.cells #[.string ⟨#[]⟩, .string ⟨#[]⟩] 69 (0, 0))) := HH
  have HW' : Aside0 (Below w.heap.size w W0.drew) := ⟨below_drew HW.out⟩
  clear z0 z1 f0 f1 HH HW hdv1 hdv2
  generalize W0.drew = W1 at *
  go_wp2
  all_goals
    refine bodyPost_ret (results_ct rfl _ _ w.heap.size 69 #[.string k, .string u] (0, 0) _ rfl (by rw [heap_set1 (heap_set1 HH'.out)]; rfl) Try.underlying69 rfl (by kernel_rfl)) rfl ?_
    rw [e.out]
    exact ⟨rfl, below_set (below_set HW'.out (Nat.le_refl _)) (Nat.le_refl _)⟩
end Go.Proofs.Ytnjidfgjldkkcaa.Q
/- store.read, store.Recover, walked. -/
namespace Go.Proofs.Ytnjidfgjldkkcaa.Q
open Go.RowKit Go.Proofs.YtnjidfgjldkkcaaW.PrintWords Go.Proofs.YtnjidfgjldkkcaaW.PrintLast Go.Proofs.YtnjidfgjldkkcaaW.PrintMore
/-- The rows of records; none: one of these is no row. -/
def rowsOf : List S69 → List (List Int) → Option (List S69)
  | acc, [] => some acc
  | acc, r :: t => if (rowF r).2 = true then rowsOf (acc ++ [(rowF r).1]) t else none
/-- The table of batches. -/
def recF : List S69 → List (List (List Int)) → Option (List S69)
  | t, [] => some t
  | t, m :: rest => match rowsOf [] m with
    | none => none
    | some cs => if 40 < (changedF t cs).length then none else recF (changedF t cs) rest
theorem recF_nil (t : List S69) : recF t [] = some t := rfl
theorem recF_cons (t : List S69) (m : List (List Int)) (rest : List (List (List Int))) : recF t (m :: rest) = match rowsOf [] m with | none => none | some cs => if 40 < (changedF t cs).length then none else recF (changedF t cs) rest := rfl
def readS (b : List Int) : List S69 × Int × Int := match recF [] (readF b (b.length + 1) [] [] 0 0).1 with
  | none => ([], 0, 4)
  | some t => (t, ((readF b (b.length + 1) [] [] 0 0).2 : Int), 0)
/-- A record that a file may have. -/
def GoodRec (r : List Int) : Prop := 1 ≤ r.length ∧ r.length ≤ 60 ∧ ∀ x ∈ r, 0 ≤ x ∧ x ≤ 255
theorem firstF_good (b : List Int) (hb : ∀ x ∈ b, 0 ≤ x ∧ x ≤ 255) (h : ¬ (firstF b).2.2 = 0) : GoodRec (firstF b).1 := by
  unfold firstF at h ⊢
  by_cases hc : (headOk b && sumOk b) = true
  · rw [if_pos hc]
    rw [Bool.and_eq_true] at hc
    have h1 := hc.1
    have h2 := hc.2
    unfold headOk at h1
    unfold sumOk at h2
    simp only [Bool.and_eq_true, decide_eq_true_eq] at h1 h2
    have hk : kOf b = 2 + (rd b 0).toNat := rfl
    refine ⟨?_, ?_, fun x hx => hb x (List.mem_of_mem_take (List.mem_of_mem_drop hx))⟩
    · show 1 ≤ ((b.take (kOf b)).drop 2).length
      rw [List.length_drop, List.length_take]; omega
    · show ((b.take (kOf b)).drop 2).length ≤ 60
      rw [List.length_drop, List.length_take]; omega
  · rw [if_neg hc] at h
    exact absurd rfl h
theorem readF_good (b : List Int) (hb : ∀ x ∈ b, 0 ≤ x ∧ x ≤ 255) : ∀ (f : Nat) (bs : List (List (List Int))) (ba : List (List Int)) (used n : Nat), (∀ x ∈ bs, ∀ r ∈ x, GoodRec r) → (∀ r ∈ ba, GoodRec r) →
    ∀ x ∈ (readF b f bs ba used n).1, ∀ r ∈ x, GoodRec r
  | 0, bs, _, _, _, h, _ => h
  | f + 1, bs, ba, used, n, h, h2 => by
    unfold readF
    by_cases h1 : (firstF (b.drop n)).2.2 = 0
    · rw [if_pos h1]; exact h
    rw [if_neg h1]
    have hg := firstF_good (b.drop n) (fun x hx => hb x (List.mem_of_mem_drop hx)) h1
    have hg2 : ∀ r ∈ ba ++ [(firstF (b.drop n)).1], GoodRec r := by
      intro r hr
      rw [List.mem_append, List.mem_singleton] at hr
      rcases hr with hr | rfl
      · exact h2 r hr
      · exact hg
    by_cases h3 : (firstF (b.drop n)).2.1 = true
    · rw [if_pos h3]
      refine readF_good b hb f _ _ _ _ ?_ (by simp)
      intro x hx
      rw [List.mem_append, List.mem_singleton] at hx
      rcases hx with hx | rfl
      · exact h x hx
      · exact hg2
    · rw [if_neg h3]
      exact readF_good b hb f _ _ _ _ h hg2
theorem readF_len (b : List Int) (M : Nat) : ∀ (f : Nat) (bs : List (List (List Int))) (ba : List (List Int)) (used n : Nat), (∀ x ∈ bs, x.length ≤ M) → ba.length + f ≤ M →
    (readF b f bs ba used n).1.length ≤ bs.length + f ∧ ∀ x ∈ (readF b f bs ba used n).1, x.length ≤ M
  | 0, bs, ba, used, n, h, _ => ⟨Nat.le_refl _, h⟩
  | f + 1, bs, ba, used, n, h, hm => by
    unfold readF
    by_cases h1 : (firstF (b.drop n)).2.2 = 0
    · rw [if_pos h1]; exact ⟨by simp, h⟩
    rw [if_neg h1]
    by_cases h2 : (firstF (b.drop n)).2.1 = true
    · rw [if_pos h2]
      have := readF_len b M f (bs ++ [ba ++ [(firstF (b.drop n)).1]]) [] (n + (firstF (b.drop n)).2.2) (n + (firstF (b.drop n)).2.2) (fun x hx => by
        rw [List.mem_append, List.mem_singleton] at hx
        rcases hx with hx | rfl
        · exact h x hx
        · rw [List.length_append, List.length_singleton]; omega) (by simp; omega)
      rw [List.length_append, List.length_singleton] at this
      exact ⟨by omega, this.2⟩
    · rw [if_neg h2]
      have := readF_len b M f bs (ba ++ [(firstF (b.drop n)).1]) used (n + (firstF (b.drop n)).2.2) h (by rw [List.length_append, List.length_singleton]; omega)
      exact ⟨by omega, this.2⟩
def ReadEnd (w : World) (r : List S69 × Int × Int) (e : Ending) (w' : World) : Prop := ∃ v, e = .returned (.tuple #[v, .int .i64 r.2.1, .int .i64 r.2.2]) ∧ k69.R 69 w' w.heap.size (fun _ => True) v r.1 ∧ Below w.heap.size w w'
theorem rdL5_at' {l : List (List (List Int))} {i : Nat} (h : i < l.length) : rd_L5 l (i : Int) = l[i] := by
  simp [rd_L5, List.getD_eq_getElem?_getD, List.getElem?_eq_getElem h]
theorem rdL4_at' {l : List (List Int)} {i : Nat} (h : i < l.length) : rd_L4 l (i : Int) = l[i] := by
  simp [rd_L4, List.getD_eq_getElem?_getD, List.getElem?_eq_getElem h]
set_option maxRecDepth 100000 in
set_option maxHeartbeats 8000000 in
theorem store_read (A : Option Addr) (c : Nat) (b : List Int) (w : World) (hr : Kd.C (Kd.int .u8) w A b.length b) (hc : b.length ≤ c) (hl : b.length ≤ 1300) (hb : ∀ x ∈ b, 0 ≤ x ∧ x ≤ 255) :
    Calls Try.prog 59 #[.slice A b.length c] w (ReadEnd w (readS b)) := by
  have H56 := Aside0.mk (read_walk A c b w hr hc (by omega))
  have hgood := readF_good b hb (b.length + 1) [] [] 0 0 (by simp) (by simp)
  have hlen := readF_len b 2000 (b.length + 1) [] [] 0 0 (by simp) (by simp; omega)
  obtain ⟨q, hq⟩ : ∃ q, q = readF b (b.length + 1) [] [] 0 0 := ⟨_, rfl⟩
  have hres : Aside0 (readS b = match recF [] q.1 with | none => ([], 0, 4) | some t => (t, (q.2 : Int), 0)) := ⟨by unfold readS; rw [← hq]⟩
  rw [← hq] at H56 hgood hlen
  obtain ⟨bs, used⟩ := q
  simp only at H56 hgood hlen
  have HG := Aside0.mk hgood
  have HL := Aside0.mk hlen
  clear hgood hlen hq hr hb
  go_enter Try.func59, Try.ntmps59
  go_wp2_with (go_at_call 56; refine H56.out.mono ?_; rintro e w1 ⟨v, rfl, ho, hb⟩; obtain ⟨A5, c5, rfl⟩ := Kd.R_slice ho; have HO5 := Aside0.mk (Kd.R_reads' ho); have HB1 := Aside0.mk hb; clear ho hb)
  have hbl : bs.length ≤ 2000 := by have := HL.out.1; simp only [List.length_nil] at this; omega
  go_loopw [7, 22] (fun v7 v22 wr => ∃ (i : Nat) (t : List S69), v22 = .int .i64 i ∧ Aside0 (i ≤ bs.length) ∧ Aside0 (recF t (bs.drop i) = recF [] bs) ∧ Aside0 (t.length ≤ 40) ∧ Aside0 (k69.R 69 wr w1.heap.size (fun _ => True) v7 t) ∧ Aside0 (Below w1.heap.size w1 wr)) (fun _ v22 _ => bs.length - (intOf v22).toNat)
  case atStart => exact ⟨0, [], rfl, ⟨Nat.zero_le _⟩, ⟨rfl⟩, ⟨by simp⟩, ⟨Kd.R_nil _ _ _ _ _⟩, ⟨Below.refl _ _⟩⟩
  case round =>
    obtain ⟨i, t, rfl, hi, hs, htl, HT, HB⟩ := hrel
    have hil := hi.out
    by_cases hlt : i < bs.length
    · obtain ⟨ad, A0, c0, rfl, x0w, l0, g0⟩ := at_L5 HO5.out.2.2 (i : Int) (by omega) (by omega)
      have x0 := (HB.out.cell (World.block_lt_of_cell? w1 _ x0w)).trans x0w
      clear x0w
      rw [Int.toNat_natCast] at x0
      obtain ⟨m, hm⟩ : ∃ m, m = rd_L5 bs (i : Int) := ⟨_, rfl⟩
      rw [← hm] at x0 l0 g0
      have hst : Aside0 (recF t (m :: bs.drop (i + 1)) = recF [] bs) := ⟨by rw [hm, rdL5_at' hlt, ← List.drop_eq_getElem_cons hlt]; exact hs.out⟩
      have hmm : m ∈ bs := by rw [hm, rdL5_at' hlt]; exact List.getElem_mem _
      have HGm : Aside0 (∀ r ∈ m, GoodRec r) := ⟨HG.out m hmm⟩
      have hml : m.length ≤ 2000 := HL.out.2 m hmm
      have G0 := Aside0.mk g0
      obtain ⟨A7, c7, rfl⟩ := Kd.R_slice HT.out
      clear hm hmm g0 hs
      go_wp2
      go_loopw [10, 28] (fun v10 v28 ws => ∃ (j : Nat) (ch : List S69), v28 = .int .i64 j ∧ Aside0 (j ≤ m.length) ∧ Aside0 (rowsOf ch (m.drop j) = rowsOf [] m) ∧ Aside0 (ch.length ≤ j) ∧ Aside0 (k69.R 69 ws w1.heap.size (fun _ => True) v10 ch) ∧ Aside0 (k69.R 69 ws w1.heap.size (fun k => True ∧ some k ≠ v10.ownBlock) (.slice A7 t.length c7) t) ∧ Aside0 (Below w1.heap.size w1 ws)) (fun _ v28 _ => m.length - (intOf v28).toNat)
      case atStart => exact ⟨0, [], rfl, ⟨Nat.zero_le _⟩, ⟨rfl⟩, ⟨Nat.le_refl _⟩, ⟨Kd.R_nil _ _ _ _ _⟩, ⟨Kd.R_apart_nil HT.out⟩, HB⟩
      case round =>
        obtain ⟨j, ch, rfl, hj, hrs, hcl, HC1, HT1, HBs⟩ := hrel
        have hjl := hj.out
        by_cases hjt : j < m.length
        · obtain ⟨ad2, A1, c1, rfl, y0, l1, g1⟩ := at_L4 (Kd.C_below G0.out HBs.out) (j : Int) (by omega) (by omega)
          rw [Int.toNat_natCast] at y0
          obtain ⟨r, hrd⟩ : ∃ r, r = rd_L4 m (j : Int) := ⟨_, rfl⟩
          rw [← hrd] at y0 l1 g1
          have hrm : r ∈ m := by rw [hrd, rdL4_at' hjt]; exact List.getElem_mem _
          have hgr := HGm.out r hrm
          have hstep : Aside0 ((if (rowF r).2 = true then rowsOf (ch ++ [(rowF r).1]) (m.drop (j + 1)) else none) = rowsOf [] m) := ⟨by
            rw [← hrs.out, List.drop_eq_getElem_cons hjt, ← rdL4_at' hjt, ← hrd]
            rfl⟩
          obtain ⟨⟨⟨k, u⟩, ok⟩, hro⟩ : ∃ z, Aside0 (z = rowF r) := ⟨_, ⟨rfl⟩⟩
          rw [← hro.out] at hstep
          have hr0 : 0 ≤ rd r 0 ∧ rd r 0 ≤ 255 := by
            have h0 : 0 < r.length := by have := hgr.1; omega
            have : rd r ((0 : Nat) : Int) = r[0] := by unfold rd; rw [Int.toNat_natCast, List.getD_eq_getElem?_getD, List.getElem?_eq_getElem h0]; rfl
            rw [show (0 : Int) = ((0 : Nat) : Int) from rfl, this]
            exact hgr.2.2 _ (List.getElem_mem h0)
          have hcall : Aside0 (∀ W, Below wr.heap.size wr W → Calls Try.prog 76 #[.slice A1 r.length c1] W (RowEnd W (⟨k, u⟩, ok))) := ⟨fun W hW => hro.out ▸ row_walk A1 c1 r W (Kd.C_below g1 hW) l1 (by have := hgr.1; omega) hr0 (by have := hgr.2.1; omega)⟩
          clear hrd hrm hgr g1 hr0
          cases ok
          · have hno : Aside0 (readS b = ([], 0, 4)) := ⟨by
              have h1 := hstep.out
              rw [if_neg (by simp)] at h1
              have h2 := hst.out
              rw [recF_cons, ← h1] at h2
              rw [hres.out]
              simp only at h2 ⊢
              rw [← h2]⟩
            go_wp2_with (go_at_call 76; refine (hcall.out _ (Below.refl _ _)).mono ?_; rintro e w3 ⟨rfl, hbl⟩; have HB3 := Aside0.mk (below_step HBs.out hbl); clear hbl)
            go_ret3
            rw [hno.out]
            exact ⟨_, rfl, Kd.R_nil _ _ _ _ _, below_step HB1.out (below_alloc HB3.out _)⟩
          · have hst2 : Aside0 (rowsOf (ch ++ [⟨k, u⟩]) (m.drop (j + 1)) = rowsOf [] m) := ⟨by have := hstep.out; rw [if_pos rfl] at this; exact this⟩
            go_wp2_with (first | (go_at_call 76; refine (hcall.out _ (Below.refl _ _)).mono ?_; rintro e w3 ⟨rfl, hbl⟩; have HB3 := Aside0.mk (below_alloc (below_step HBs.out hbl) (.cells #[.string k, .string u] 69)); have HC3 := Aside0.mk (Kd.R_alloc (Kd.R_below HC1.out hbl) (.cells #[.string k, .string u] 69)); have HT3 := Aside0.mk (Kd.R_alloc (Kd.R_below HT1.out hbl) (.cells #[.string k, .string u] 69)); clear hbl) | ((with_reducible refine gate_builtin (b := .append) (xs := #[.tmp 39, .tmp 41]) rfl ?_); at_builtin; refine Kd.R_append k69 (w0 := w1) w1.heap.size rfl (.tmp 39) (.tmp 41) 24 69 (.agg #[.string ⟨#[]⟩, .string ⟨#[]⟩]) 32 rfl Try.underlying24 info69 rfl (by decide) (by omega) u10 ch ⟨k, u⟩ [.string k, .string u] (fun _ => True) (fun _ => False) rfl (by first | rfl | (go_simp; done) | (go_simp; rfl)) (k69_mkM _ _ _ ⟨k, u⟩) (fun _ h => h.elim) (fun _ _ => trivial) HC3.out HB3.out (below_size HB3.out) (by have := hcl.out; omega) ?_; intro v4 w4 ho hb hg hat; obtain ⟨A4, c4, rfl⟩ := Kd.R_slice ho; rw [List.length_append, List.length_singleton] at ho hat; have HC4 := Aside0.mk ho; have HB4 := Aside0.mk hb; have HT4 := Aside0.mk (Kd.R_after HT3.out hg hat); clear ho hb hg hat))
            go_roundw
            case rel => exact ⟨j + 1, ch ++ [⟨k, u⟩], by simp, ⟨hjt⟩, hst2, ⟨by have := hcl.out; rw [List.length_append, List.length_singleton]; omega⟩, HC4, HT4, HB4⟩
            case measure => simp [intOf]; omega
        · have hro : Aside0 (rowsOf [] m = some ch) := ⟨by have := hrs.out; rw [List.drop_of_length_le (by omega)] at this; exact this.symm⟩
          have hcl2 : ch.length ≤ 2000 := by have := hcl.out; omega
          have htl2 := htl.out
          obtain ⟨A10, c10, rfl⟩ := Kd.R_slice HC1.out
          obtain ⟨ys, hys⟩ : ∃ ys, Aside0 (ys = changedF t ch) := ⟨_, ⟨rfl⟩⟩
          have hch : Aside0 (Calls Try.prog 49 #[.slice A7 t.length c7, .slice A10 ch.length c10] wr fun e w' => ∃ v', e = .returned v' ∧ k69.R 69 w' wr.heap.size (fun _ => True) v' ys ∧ Below wr.heap.size wr w') := ⟨hys.out ▸ changed_walk A7 A10 c7 c10 t ch wr (Kd.R_reads' HT1.out).2.2 (Kd.R_reads' HT1.out).2.1 (Kd.R_reads' HC1.out).2.2 (Kd.R_reads' HC1.out).2.1 (by omega)⟩
          have hst2 : Aside0 ((if 40 < ys.length then none else recF ys (bs.drop (i + 1))) = recF [] bs) := ⟨by
            have h2 := hst.out
            rw [recF_cons, hro.out] at h2
            rw [hys.out]
            exact h2⟩
          by_cases h40 : 40 < ys.length
          · have hno : Aside0 (readS b = ([], 0, 4)) := ⟨by
              have h2 := hst2.out
              rw [if_pos h40] at h2
              rw [hres.out, ← h2]⟩
            go_wp2_with (go_at_call 49; refine hch.out.mono ?_; rintro e w3 ⟨v3, rfl, ho, hbl⟩; obtain ⟨A3, c3, rfl⟩ := Kd.R_slice ho; have HB3 := Aside0.mk (below_step HBs.out hbl); clear ho hbl)
            go_ret3
            rw [hno.out]
            exact ⟨_, rfl, Kd.R_nil _ _ _ _ _, below_step HB1.out HB3.out⟩
          · have hst3 : Aside0 (recF ys (bs.drop (i + 1)) = recF [] bs) := ⟨by have := hst2.out; rw [if_neg h40] at this; exact this⟩
            go_wp2_with (go_at_call 49; refine hch.out.mono ?_; rintro e w3 ⟨v3, rfl, ho, hbl⟩; obtain ⟨A3, c3, rfl⟩ := Kd.R_slice ho; have HO3 := Aside0.mk (Kd.R_lower ho HBs.out.size); have HB3 := Aside0.mk (below_step HBs.out hbl); clear ho hbl)
            go_roundw
            case rel => exact ⟨i + 1, ys, by simp, ⟨hlt⟩, hst3, ⟨by omega⟩, HO3, HB3⟩
            case measure => simp [intOf]; omega
    · have hyes : Aside0 (readS b = (t, (used : Int), 0)) := ⟨by
        have h2 := hs.out
        rw [List.drop_of_length_le (by omega)] at h2
        rw [recF_nil] at h2
        rw [hres.out, ← h2]⟩
      go_wp2
      go_ret3
      rw [hyes.out]
      exact ⟨_, rfl, Kd.R_lower HT.out HB1.out.size, below_step HB1.out HB.out⟩
def recoverF (b : List Int) : List S69 × Int × Int := if 1200 < b.length then ([], 0, 1) else readS b
def bytesOk (b : List Int) : Bool := b.all fun x => decide (0 ≤ x ∧ x ≤ 255)
def store_Recover.f (b : List Int) : Option (List S69 × Int × Int) := if bytesOk b = true then some (recoverF b) else none
theorem bytesOk_of {b : List Int} (h : bytesOk b = true) : ∀ x ∈ b, 0 ≤ x ∧ x ≤ 255 := fun x hx => by
  have := List.all_eq_true.1 h x hx
  simpa using this
theorem of_bytesOk {b : List Int} (h : ∀ x ∈ b, 0 ≤ x ∧ x ≤ 255) : bytesOk b = true := List.all_eq_true.2 fun x hx => by
  have := h x hx
  simpa using this
set_option maxRecDepth 100000 in
set_option maxHeartbeats 8000000 in
theorem recover_walk (A : Option Addr) (c : Nat) (b : List Int) (w : World) (hr : Kd.C (Kd.int .u8) w A b.length b) (hc : b.length ≤ c) (hb : ∀ x ∈ b, 0 ≤ x ∧ x ≤ 255) :
    Calls Try.prog 36 #[.slice A b.length c] w (ReadEnd w (recoverF b)) := by
  by_cases h : 1200 < b.length
  · have e : Aside0 (recoverF b = ([], 0, 1)) := ⟨by unfold recoverF; rw [if_pos h]⟩
    go_enter Try.func36, Try.ntmps36
    go_wp2
    go_ret3
    rw [e.out]
    exact ⟨_, rfl, Kd.R_nil _ _ _ _ _, Below.refl _ _⟩
  · have e : Aside0 (recoverF b = readS b) := ⟨by unfold recoverF; rw [if_neg h]⟩
    have H := Aside0.mk (store_read A c b w hr hc (by omega) hb)
    clear hr hb
    go_enter Try.func36, Try.ntmps36
    go_wp2_with (go_at_call 59; refine H.out.mono ?_; rintro e w1 ⟨v, rfl, ho, hb⟩; have HO := Aside0.mk ho; have HB := Aside0.mk hb; clear ho hb)
    go_ret3
    rw [e.out]
    exact ⟨_, rfl, HO.out, HB.out⟩
theorem store_Recover.calls (A0 : Option Addr) (c0 : Nat) (l0 : List Int) (r1 : List S69) (r2 : Int) (r3 : Int) (w : World) (hr0 : Kd.C (Kd.int .u8) w A0 l0.length l0) (hc0 : l0.length ≤ c0) (h : store_Recover.f l0 = some (r1, r2, r3)) :
    Calls Try.prog 36 #[.slice A0 l0.length c0] w fun e w' => ∃ v0_ : Value, e = .returned (.tuple #[v0_, .int .i64 r2, .int .i64 r3]) ∧ k69.R 69 w' w.heap.size (fun _ => True) v0_ r1 ∧ Below w.heap.size w w' := by
  unfold store_Recover.f at h
  by_cases hb : bytesOk l0 = true
  · rw [if_pos hb] at h
    have h' := Option.some.inj h
    have := recover_walk A0 c0 l0 w hr0 hc0 (bytesOk_of hb)
    rw [h'] at this
    exact this
  · rw [if_neg hb] at h; cases h
end Go.Proofs.Ytnjidfgjldkkcaa.Q
/- The methods of store.Store: fault, Commit, Pack, walked. -/
namespace Go.Proofs.Ytnjidfgjldkkcaa.Q
open Go.RowKit Go.Proofs.YtnjidfgjldkkcaaW.PrintWords Go.Proofs.YtnjidfgjldkkcaaW.PrintLast Go.Proofs.YtnjidfgjldkkcaaW.PrintMore Go.Proofs.Ytnjidfgjldkkcaa.Plain
/-- A store at block g: a disk, behind it the rows. -/
def StoreAt (w : World) (base g : Nat) (s : Nat) (data : List Int) (t : List S69) : Prop := ∃ A c B d, DiskAt 95 [.slice B t.length d] w base g (.slice A data.length c) s data ∧ k69.R 69 w base (fun _ => True) (.slice B t.length d) t
def sfaultF (data : List Int) (t cs : List S69) : Int := if cs.length = 0 then 1 else if faultF t cs ≠ 0 then faultF t cs else if 1200 < data.length + (batchF cs).length then 10 else 0
theorem oddR_small {cs : List S69} (h : cs.any oddR = false) : ∀ r ∈ cs, r.f0.size ≤ 20 ∧ r.f1.size ≤ 20 := fun r hr => by
  have := List.any_eq_false.1 h r hr
  unfold oddR at this
  simp at this
  omega
theorem faultF_ok {t cs : List S69} (h : faultF t cs = 0) : cs.length ≤ 60 ∧ cs.any oddR = false ∧ (changedF t cs).length ≤ 40 := by
  unfold faultF at h
  by_cases h1 : 60 < cs.length
  · rw [if_pos h1] at h; cases h
  rw [if_neg h1] at h
  by_cases h2 : cs.any oddR = true
  · rw [if_pos h2] at h; cases h
  rw [if_neg h2] at h
  by_cases h3 : 40 < (changedF t cs).length
  · rw [if_pos h3] at h; cases h
  exact ⟨by omega, Bool.eq_false_iff.2 h2, by omega⟩
theorem batchF_len (l : List S69) (h : ∀ r ∈ l, r.f0.size ≤ 20 ∧ r.f1.size ≤ 20) : (batchF l).length ≤ 45 * l.length := by
  unfold batchF
  induction l with
  | nil => simp [packF]
  | cons r t ih =>
    have h1 := ih (fun q hq => h q (List.mem_cons_of_mem _ hq))
    have h2 := recordF_len r (h r List.mem_cons_self)
    simp only [List.map_cons, packF, List.length_append, frameF_length, List.length_cons]
    omega
set_option maxRecDepth 100000 in
set_option maxHeartbeats 8000000 in
theorem sfault_walk (base g s : Nat) (data : List Int) (t cs : List S69) (C : Option Addr) (e : Nat) (w : World) (hs : StoreAt w base g s data t) (hC : Kd.C k69 w C cs.length cs) (hc : cs.length ≤ e) (hl : t.length ≤ 40) (hd : data.length ≤ 1200) :
    Calls Try.prog 91 #[.pointer (some ⟨g, 0, none⟩), .slice C cs.length e] w fun en w' => en = .returned (.int .i64 (sfaultF data t cs)) ∧ Below w.heap.size w w' := by
  obtain ⟨A, c, B, d, hD, hR⟩ := hs
  have z0 := hD.cells.1
  have z1 : w.cell? ⟨g, 2, none⟩ = some (.slice B t.length d) := by rw [blk_cell hD.1]; rfl
  have hg := blk_lt hD.1
  obtain ⟨-, hcr, hCr⟩ := Kd.R_reads' hR
  have HC := Aside0.mk hC
  have HCr := Aside0.mk hCr
  have H0 := Aside0.mk hc
  have H1 := Aside0.mk hcr
  clear hD hR hC hCr
  by_cases h0 : cs.length = 0
  · have e1 : Aside0 (sfaultF data t cs = 1) := ⟨by unfold sfaultF; rw [if_pos h0]⟩
    go_enter Try.func91, Try.ntmps91
    go_wp2
    go_ret
    rw [e1.out]
    exact ⟨rfl, Below.refl _ _⟩
  have h0' : ¬ (cs.length : Int) = 0 := by omega
  obtain ⟨f, hf⟩ : ∃ f, Aside0 (f = faultF t cs) := ⟨_, ⟨rfl⟩⟩
  have hcall : Aside0 (∀ W, Below w.heap.size w W → Calls Try.prog 48 #[.slice B t.length d, .slice C cs.length e] W fun en w' => en = .returned (.int .i64 f) ∧ Below W.heap.size W w') := ⟨fun W hW => hf.out ▸ fault_walk B C d e t cs W (Kd.C_below HCr.out hW) H1.out (Kd.C_below HC.out hW) H0.out (by omega)⟩
  by_cases hf0 : f = 0
  · subst hf0
    obtain ⟨hn, hodd, -⟩ := faultF_ok hf.out.symm
    have hbl := Aside0.mk (batchF_len cs (oddR_small hodd))
    have hcall2 : Aside0 (∀ W, Below w.heap.size w W → Calls Try.prog 92 #[.slice C cs.length e] W fun en w' => ∃ v, en = .returned v ∧ (Kd.int .u8).R 5 w' W.heap.size (fun _ => True) v (batchF cs) ∧ Below W.heap.size W w') := ⟨fun W hW => batch_walk C e cs W (Kd.C_below HC.out hW) H0.out (by omega) (oddR_small hodd)⟩
    obtain ⟨bt, hbt⟩ : ∃ bt, Aside0 (bt = batchF cs) := ⟨_, ⟨rfl⟩⟩
    rw [← hbt.out] at hcall2 hbl
    have e1 : Aside0 (sfaultF data t cs = if 1200 < data.length + bt.length then 10 else 0) := ⟨by unfold sfaultF; rw [if_neg h0, ← hf.out, if_neg (by simp), ← hbt.out]⟩
    have hS : ∀ w' : World, Below w.heap.size w w' → (w'.cell? ⟨g, 0, none⟩ = some (.slice A data.length c) ∧ Below w.heap.size w w') := fun w' h => ⟨(h.cell hg).trans z0, h⟩
    have hwr : Aside0 (IntKind.i64.wrap ((data.length : Int) + (bt.length : Int)) = (data.length : Int) + (bt.length : Int)) := ⟨IntWalk.i64_in _ (by have := hbl.out; omega)⟩
    go_enter Try.func91, Try.ntmps91
    go_wp2_with (go_at_call 48; refine (hcall.out _ (Below.refl _ _)).mono ?_; rintro e w1 ⟨rfl, hb⟩; have HB1 := Aside0.mk hb; clear hb)
    go_region_held3 (fun w' => w'.cell? ⟨g, 0, none⟩ = some (.slice A data.length c) ∧ Below w.heap.size w w') (first | assumption | exact hS _ (below_drew HB1.out)) (first | (go_at_call 92; refine (hcall2.out _ (And.right (by assumption))).mono ?_; rintro e w2 ⟨v, rfl, ho, hb⟩; obtain ⟨A2, c2, rfl⟩ := Kd.R_slice ho; have hS1 := hS _ (below_step (And.right (by assumption)) hb); clear ho hb))
    all_goals
      have hBW := Aside0.mk hS1.2
      by_cases h12 : 1200 < data.length + bt.length
      · have h12' : (1200 : Int) < (data.length : Int) + (bt.length : Int) := by omega
        rw [hwr.out]
        go_wp2
        go_ret
        rw [e1.out, if_pos h12]
        exact ⟨rfl, hBW.out⟩
      · have h12' : ¬ (1200 : Int) < (data.length : Int) + (bt.length : Int) := by omega
        rw [hwr.out]
        go_wp2
        go_ret
        rw [e1.out, if_neg h12]
        exact ⟨rfl, hBW.out⟩
  · have e1 : Aside0 (sfaultF data t cs = f) := ⟨by unfold sfaultF; rw [if_neg h0, ← hf.out, if_pos hf0]⟩
    go_enter Try.func91, Try.ntmps91
    go_wp2_with (go_at_call 48; refine (hcall.out _ (Below.refl _ _)).mono ?_; rintro e w1 ⟨rfl, hb⟩; have HB1 := Aside0.mk hb; clear hb)
    go_ret
    rw [e1.out]
    exact ⟨rfl, HB1.out⟩
theorem StoreAt.mod {T : List Nat} {B : Nat} {w w' : World} {base g s : Nat} {data : List Int} {t : List S69} (h : StoreAt w base g s data t) (hm : ModT T B w w') (h95 : 95 ∉ T) (h5 : 5 ∉ T) (h69 : 69 ∉ T) : StoreAt w' base g s data t := by
  obtain ⟨A, c, B', d, hD, hR⟩ := h
  exact ⟨A, c, B', d, hD.keep hm h95 h5, hm.R hR (by intro q hq; have : q = 69 := (by simpa [k69, Kd.iso, Kd.pair, Kd.string, Kd.scalar] using hq); subst this; exact h69)⟩
theorem StoreAt.below {w w' : World} {base g s : Nat} {data : List Int} {t : List S69} (h : StoreAt w base g s data t) (hb : Below w.heap.size w w') : StoreAt w' base g s data t := h.mod (ModT.of_below (T := []) (B := 0) hb) (by simp) (by simp) (by simp)
theorem rowsMod {T : List Nat} {B : Nat} {w w' : World} {base : Nat} {v : Value} {t : List S69} (h : k69.R 69 w base (fun _ => True) v t) (hm : ModT T B w w') (h69 : 69 ∉ T) : k69.R 69 w' base (fun _ => True) v t := hm.R h (by intro q hq; have : q = 69 := (by simpa [k69, Kd.iso, Kd.pair, Kd.string, Kd.scalar] using hq); subst this; exact h69)
/-- How a method of a store ends. -/
def StPost (base g : Nat) (w : World) (r : Value) (s : Nat) (d : List Int) (t : List S69) (e : Ending) (w' : World) : Prop := e = .returned r ∧ StoreAt w' base g s d t ∧ ModT [95, 5] base w w'
/-- The rows of a store are turned. -/
theorem StoreAt.turn {w : World} {base g s : Nat} {data : List Int} {A : Option Addr} {c : Nat} {rv : Value} {B' : Option Addr} {d' : Nat} {t' : List S69} (hD : DiskAt 95 [rv] w base g (.slice A data.length c) s data) (hR' : k69.R 69 w base (fun _ => True) (.slice B' t'.length d') t') :
    StoreAt (w.setCell ⟨g, 2, none⟩ (.slice B' t'.length d')) base g s data t' :=
  ⟨A, c, B', d', ⟨by rw [heap_set1 hD.1]; rfl, hD.2.1, Kd.R_set hD.2.2.1 hD.1 (noR5 (by simp)) _ _, hD.2.2.2⟩, Kd.R_set hR' hD.1 (by intro q hq; have : q = 69 := (by simpa [k69, Kd.iso, Kd.pair, Kd.string, Kd.scalar] using hq); omega) _ _⟩
theorem sfaultF_ok {data : List Int} {t cs : List S69} (h : sfaultF data t cs = 0) : cs.length ≠ 0 ∧ faultF t cs = 0 ∧ data.length + (batchF cs).length ≤ 1200 := by
  unfold sfaultF at h
  by_cases h1 : cs.length = 0
  · rw [if_pos h1] at h; cases h
  rw [if_neg h1] at h
  by_cases h2 : faultF t cs = 0
  · rw [if_neg (by simp [h2])] at h
    by_cases h3 : 1200 < data.length + (batchF cs).length
    · rw [if_pos h3] at h; cases h
    · exact ⟨h1, h2, by omega⟩
  · rw [if_pos h2] at h; exact absurd h h2
def commitF (s : Nat) (data : List Int) (t cs : List S69) : Nat × List Int × List S69 := if sfaultF data t cs ≠ 0 then (s, data, t) else ((data ++ batchF cs).length, data ++ batchF cs, changedF t cs)
set_option maxRecDepth 100000 in
set_option maxHeartbeats 8000000 in
theorem commit_walk (base g s : Nat) (data : List Int) (t cs : List S69) (C : Option Addr) (e : Nat) (w : World) (hs : StoreAt w base g s data t) (hC : ∀ W, ModT [95, 5] base w W → Kd.C k69 W C cs.length cs) (hc : cs.length ≤ e) (hl : t.length ≤ 40) (hd : data.length ≤ 1200) :
    Calls Try.prog 77 #[.pointer (some ⟨g, 0, none⟩), .slice C cs.length e] w (StPost base g w (.int .i64 (sfaultF data t cs)) (commitF s data t cs).1 (commitF s data t cs).2.1 (commitF s data t cs).2.2) := by
  have HS := Aside0.mk hs
  have HC := Aside0.mk hC
  have H0 := Aside0.mk hc
  clear hs hC
  obtain ⟨f, hf⟩ : ∃ f, Aside0 (f = sfaultF data t cs) := ⟨_, ⟨rfl⟩⟩
  have hcall : Aside0 (Calls Try.prog 91 #[.pointer (some ⟨g, 0, none⟩), .slice C cs.length e] w fun en w' => en = .returned (.int .i64 f) ∧ Below w.heap.size w w') := ⟨hf.out ▸ sfault_walk base g s data t cs C e w HS.out (HC.out _ (ModT.refl _ _ _)) hc hl hd⟩
  rw [← hf.out]
  by_cases hf0 : f = 0
  · subst hf0
    obtain ⟨-, hfl, hbl⟩ := sfaultF_ok hf.out.symm
    obtain ⟨hn, hodd, -⟩ := faultF_ok hfl
    have e1 : Aside0 (commitF s data t cs = ((data ++ batchF cs).length, data ++ batchF cs, changedF t cs)) := ⟨by unfold commitF; rw [← hf.out, if_neg (by simp)]⟩
    have hcall2 : Aside0 (∀ W, ModT [95, 5] base w W → Calls Try.prog 92 #[.slice C cs.length e] W fun en w' => ∃ v, en = .returned v ∧ (Kd.int .u8).R 5 w' W.heap.size (fun _ => True) v (batchF cs) ∧ Below W.heap.size W w') := ⟨fun W hW => batch_walk C e cs W (HC.out _ hW) H0.out (by omega) (oddR_small hodd)⟩
    have e2 : Aside0 (wrCode data (batchF cs) = 0 ∧ wrData data (batchF cs) = data ++ batchF cs) := ⟨by unfold wrCode wrData; rw [if_neg (by omega), if_neg (by omega)]; exact ⟨rfl, rfl⟩⟩
    obtain ⟨ys, hys⟩ : ∃ ys, Aside0 (ys = changedF t cs) := ⟨_, ⟨rfl⟩⟩
    rw [← hys.out] at e1
    generalize batchF cs = bt at *
    go_enter Try.func77, Try.ntmps77
    go_wp2_with (go_at_call 91; refine hcall.out.mono ?_; rintro e w1 ⟨rfl, hb⟩; have HM1 := Aside0.mk (ModT.of_below (T := [95, 5]) (B := base) hb); have HS1 := Aside0.mk (HS.out.below hb); clear hb)
    obtain ⟨A1, c1, B1, d1, hD1, hR1⟩ := HS1.out
    have HD1 := Aside0.mk hD1
    have HR1 := Aside0.mk hR1
    clear hD1 hR1
    go_region_with (first | (go_at_call 92; refine (hcall2.out _ (HM1.out.trans (ModT.of_below (below_drew (Below.refl _ _))))).mono ?_; rintro e w2 ⟨v, rfl, ho, hb⟩; obtain ⟨A2, c2, rfl⟩ := Kd.R_slice ho; have HM2 := Aside0.mk (ModT.of_below (T := [95, 5]) (B := base) (below_step (below_drew (Below.refl _ _)) hb)); have HO2 := Aside0.mk (Kd.R_reads' ho); have HD2 := Aside0.mk (HD1.out.keep (ModT.of_below (T := []) (B := 0) (below_step (below_drew (Below.refl _ _)) hb)) (by simp) (by simp)); have HR2 := Aside0.mk (rowsMod HR1.out (ModT.of_below (T := []) (B := 0) (below_step (below_drew (Below.refl _ _)) hb)) (by simp)); clear ho hb) | (go_at_call 87; refine (disk_Write 95 _ base g _ s data bt A2 c2 _ _ HD2.out (by simp) HO2.out.2.2 HO2.out.2.1 rfl (by omega)).mono ?_; rintro e w3 ⟨v', rfl, hd3, hm3⟩; obtain ⟨A3, c3, rfl⟩ := Kd.R_slice hd3.2.2.1; rw [e2.out.2] at hd3; have HD3 := Aside0.mk hd3; have HR3 := Aside0.mk (rowsMod HR2.out hm3 (by simp)); have HM3 := Aside0.mk hm3; clear hd3 hm3))
    all_goals
      have hyl := changedF_len t cs
      go_wp2_with (first | (go_at_call 88; refine (disk_Sync 95 _ base g _ s _ _ HD3.out (by simp)).mono ?_; rintro e w4 ⟨v', rfl, hd4, hm4⟩; obtain ⟨A4, c4, rfl⟩ := Kd.R_slice hd4.2.2.1; have HD4 := Aside0.mk hd4; have z4 : w4.cell? ⟨g, 2, none⟩ = some (.slice B1 t.length d1) := (by rw [blk_cell hd4.1]; rfl); have HR4 := Aside0.mk (rowsMod HR3.out hm4 (by simp)); have HM4 := Aside0.mk (((HM1.out.trans HM2.out).trans HM3.out).trans hm4); have hcap := Aside0.mk (Kd.R_reads' HR4.out); clear hd4 hm4) | (go_at_call 49; refine (changed_walk B1 C d1 e t cs _ hcap.out.2.2 hcap.out.2.1 (HC.out _ HM4.out) H0.out (by omega)).mono ?_; rintro e w5 ⟨v5, rfl, ho, hb⟩; rw [← hys.out] at ho; obtain ⟨B5, d5, rfl⟩ := Kd.R_slice ho; have HD5 := Aside0.mk (HD4.out.keep (ModT.of_below (T := []) (B := 0) hb) (by simp) (by simp)); have f5 := blk_frozen HD5.out.1 2; have z5 : w5.cell? ⟨g, 2, none⟩ = some (.slice B1 t.length d1) := (by rw [blk_cell HD5.out.1]; rfl); have HR5 := Aside0.mk (Kd.R_lower ho HD4.out.lt); have HM5 := Aside0.mk (HM4.out.trans (ModT.of_below hb)); clear ho hb))
      go_ret
      rw [e1.out]
      exact ⟨rfl, StoreAt.turn HD5.out HR5.out, HM5.out.trans (ModT.set_ HD5.out.1 (by simp) HD5.out.2.1 _)⟩
  · have e1 : Aside0 (commitF s data t cs = (s, data, t)) := ⟨by unfold commitF; rw [← hf.out, if_pos hf0]⟩
    go_enter Try.func77, Try.ntmps77
    go_wp2_with (go_at_call 91; refine hcall.out.mono ?_; rintro e w1 ⟨rfl, hb⟩; have HB1 := Aside0.mk hb; clear hb)
    go_ret
    rw [e1.out]
    exact ⟨rfl, HS.out.below HB1.out, ModT.of_below HB1.out⟩
end Go.Proofs.Ytnjidfgjldkkcaa.Q
/- The methods of store.Store: Pack, Crash, walked. -/
namespace Go.Proofs.Ytnjidfgjldkkcaa.Q
open Go.RowKit Go.Proofs.YtnjidfgjldkkcaaW.PrintWords Go.Proofs.YtnjidfgjldkkcaaW.PrintLast Go.Proofs.YtnjidfgjldkkcaaW.PrintMore Go.Proofs.Ytnjidfgjldkkcaa.Plain
set_option maxRecDepth 100000 in
set_option maxHeartbeats 8000000 in
theorem pack_walk (base g s : Nat) (data : List Int) (t : List S69) (w : World) (hs : StoreAt w base g s data t) (hl : t.length ≤ 40) (hsm : ∀ r ∈ t, r.f0.size ≤ 20 ∧ r.f1.size ≤ 20) (hbl : (batchF t).length ≤ 1200) :
    Calls Try.prog 78 #[.pointer (some ⟨g, 0, none⟩)] w (StPost base g w (.tuple #[]) (batchF t).length (batchF t) t) := by
  obtain ⟨A1, c1, B1, d1, hD1, hR1⟩ := hs
  have HD1 := Aside0.mk hD1
  have HR1 := Aside0.mk hR1
  have HSM := Aside0.mk hsm
  clear hD1 hR1 hsm
  have hcall2 : Aside0 (∀ W, k69.R 69 W base (fun _ => True) (.slice B1 t.length d1) t → Calls Try.prog 92 #[.slice B1 t.length d1] W fun en w' => ∃ v, en = .returned v ∧ (Kd.int .u8).R 5 w' W.heap.size (fun _ => True) v (batchF t) ∧ Below W.heap.size W w') := ⟨fun W hW => by
    have hcap := Kd.R_reads' hW
    exact batch_walk B1 d1 t W hcap.2.2 hcap.2.1 (by omega) HSM.out⟩
  have e2 : Aside0 (wrCode [] (batchF t) = 0 ∧ wrData [] (batchF t) = batchF t) := ⟨by unfold wrCode wrData; rw [if_neg (by simp; omega), if_neg (by simp; omega)]; exact ⟨rfl, rfl⟩⟩
  generalize batchF t = bt at *
  go_enter Try.func78, Try.ntmps78
  go_wp2_with (go_at_call 89; refine (disk_Trim 95 _ base g _ s data 0 _ HD1.out (by simp) (Nat.zero_le _)).mono ?_; rintro e w2 ⟨v', rfl, hd2, hm2⟩; obtain ⟨A2, c2, rfl⟩ := Kd.R_slice hd2.2.2.1; rw [List.take_zero] at hd2; have HD2 := Aside0.mk hd2; have HR2 := Aside0.mk (rowsMod HR1.out hm2 (by simp)); have HM2 := Aside0.mk hm2; have z2 : w2.drew.cell? ⟨g, 2, none⟩ = some (.slice B1 t.length d1) := (by show w2.cell? ⟨g, 2, none⟩ = _; rw [blk_cell hd2.1]; rfl); clear hd2 hm2)
  have HD2' := Aside0.mk (HD2.out.keep (ModT.of_below (T := []) (B := 0) (below_drew (Below.refl _ _))) (by simp) (by simp))
  have HR2' := Aside0.mk (rowsMod HR2.out (ModT.of_below (T := []) (B := 0) (below_drew (Below.refl _ _))) (by simp))
  have HM2' := Aside0.mk (HM2.out.trans (ModT.of_below (below_drew (Below.refl _ _))))
  go_region_held3 (fun w' => w'.cell? ⟨g, 2, none⟩ = some (.slice B1 t.length d1)) (first | assumption) (first | (go_at_call 92; refine (hcall2.out _ HR2'.out).mono ?_; rintro e w3 ⟨v, rfl, ho, hb⟩; obtain ⟨A3, c3, rfl⟩ := Kd.R_slice ho; have HM3 := Aside0.mk (HM2'.out.trans (ModT.of_below hb)); have HO3 := Aside0.mk (Kd.R_reads' ho); have HD3 := Aside0.mk (HD2'.out.keep (ModT.of_below (T := []) (B := 0) hb) (by simp) (by simp)); have HR3 := Aside0.mk (rowsMod HR2'.out (ModT.of_below (T := []) (B := 0) hb) (by simp)); have z3 : w3.cell? ⟨g, 2, none⟩ = some (.slice B1 t.length d1) := (by rw [blk_cell HD3.out.1]; rfl); clear ho hb) | (go_at_call 87; refine (disk_Write 95 _ base g _ _ [] bt A3 c3 _ _ HD3.out (by simp) HO3.out.2.2 HO3.out.2.1 rfl (by simp; omega)).mono ?_; rintro e w4 ⟨v', rfl, hd4, hm4⟩; obtain ⟨A4, c4, rfl⟩ := Kd.R_slice hd4.2.2.1; rw [e2.out.2] at hd4; have HD4 := Aside0.mk hd4; have HR4 := Aside0.mk (rowsMod HR3.out hm4 (by simp)); have HM4 := Aside0.mk (HM3.out.trans hm4); have z4 : w4.cell? ⟨g, 2, none⟩ = some (.slice B1 t.length d1) := (by rw [blk_cell hd4.1]; rfl); clear hd4 hm4))
  all_goals
    go_wp2_with (go_at_call 88; refine (disk_Sync 95 _ base g _ _ _ _ HD4.out (by simp)).mono ?_; rintro e w5 ⟨v', rfl, hd5, hm5⟩; obtain ⟨A5, c5, rfl⟩ := Kd.R_slice hd5.2.2.1; have HD5 := Aside0.mk hd5; have HR5 := Aside0.mk (rowsMod HR4.out hm5 (by simp)); have HM5 := Aside0.mk (HM4.out.trans hm5); clear hd5 hm5)
    go_end0
    exact ⟨rfl, ⟨_, _, _, _, HD5.out, HR5.out⟩, HM5.out⟩
def crashCode (data : List Int) (t cs : List S69) (n : Int) : Int := if n < 0 then 2 else sfaultF data t cs
set_option maxRecDepth 100000 in
set_option maxHeartbeats 8000000 in
theorem crash_bad (base g s : Nat) (data : List Int) (t cs : List S69) (n : Int) (C : Option Addr) (e : Nat) (w : World) (hs : StoreAt w base g s data t) (hC : Kd.C k69 w C cs.length cs) (hc : cs.length ≤ e) (hl : t.length ≤ 40) (hd : data.length ≤ 1200) (hn : crashCode data t cs n ≠ 0) :
    Calls Try.prog 79 #[.pointer (some ⟨g, 0, none⟩), .slice C cs.length e, .int .i64 n] w (StPost base g w (.int .i64 (crashCode data t cs n)) s data t) := by
  have HS := Aside0.mk hs
  have HC := Aside0.mk hC
  have H0 := Aside0.mk hc
  clear hs hC
  by_cases h0 : n < 0
  · have e1 : Aside0 (crashCode data t cs n = 2) := ⟨by unfold crashCode; rw [if_pos h0]⟩
    go_enter Try.func79, Try.ntmps79
    go_wp2
    go_ret
    rw [e1.out]
    exact ⟨rfl, HS.out, ModT.refl _ _ _⟩
  have e1 : Aside0 (crashCode data t cs n = sfaultF data t cs) := ⟨by unfold crashCode; rw [if_neg h0]⟩
  rw [e1.out] at hn ⊢
  obtain ⟨f, hf⟩ : ∃ f, Aside0 (f = sfaultF data t cs) := ⟨_, ⟨rfl⟩⟩
  have hcall : Aside0 (Calls Try.prog 91 #[.pointer (some ⟨g, 0, none⟩), .slice C cs.length e] w fun en w' => en = .returned (.int .i64 f) ∧ Below w.heap.size w w') := ⟨hf.out ▸ sfault_walk base g s data t cs C e w HS.out HC.out hc hl hd⟩
  rw [← hf.out] at hn ⊢
  go_enter Try.func79, Try.ntmps79
  go_wp2_with (go_at_call 91; refine hcall.out.mono ?_; rintro e w1 ⟨rfl, hb⟩; have HB1 := Aside0.mk hb; clear hb)
  go_ret
  exact ⟨rfl, HS.out.below HB1.out, ModT.of_below HB1.out⟩
set_option maxRecDepth 100000 in
set_option maxHeartbeats 8000000 in
theorem crash_good (base g s : Nat) (data : List Int) (t cs : List S69) (n : Nat) (C : Option Addr) (e : Nat) (w : World) (hs : StoreAt w base g s data t) (hC : ∀ W, ModT [95, 5] base w W → Kd.C k69 W C cs.length cs) (hc : cs.length ≤ e) (hl : t.length ≤ 40) (hd : data.length ≤ 1200) (hn : sfaultF data t cs = 0)
    (hby : ∀ x ∈ data ++ batchF cs, 0 ≤ x ∧ x ≤ 255) (t' : List S69) (u : Nat) (hr : readS ((data ++ batchF cs).take (fallN s n (data ++ batchF cs).length)) = (t', (u : Int), 0)) (hu : u ≤ ((data ++ batchF cs).take (fallN s n (data ++ batchF cs).length)).length) :
    Calls Try.prog 79 #[.pointer (some ⟨g, 0, none⟩), .slice C cs.length e, .int .i64 (n : Int)] w (StPost base g w (.int .i64 0) u (((data ++ batchF cs).take (fallN s n (data ++ batchF cs).length)).take u) t') := by
  have HS := Aside0.mk hs
  have HC := Aside0.mk hC
  have H0 := Aside0.mk hc
  clear hs hC
  have hcall : Aside0 (Calls Try.prog 91 #[.pointer (some ⟨g, 0, none⟩), .slice C cs.length e] w fun en w' => en = .returned (.int .i64 0) ∧ Below w.heap.size w w') := ⟨hn ▸ sfault_walk base g s data t cs C e w HS.out (HC.out _ (ModT.refl _ _ _)) hc hl hd⟩
  obtain ⟨-, hfl, hbl⟩ := sfaultF_ok hn
  obtain ⟨hcn, hodd, -⟩ := faultF_ok hfl
  have hcall2 : Aside0 (∀ W, ModT [95, 5] base w W → Calls Try.prog 92 #[.slice C cs.length e] W fun en w' => ∃ v, en = .returned v ∧ (Kd.int .u8).R 5 w' W.heap.size (fun _ => True) v (batchF cs) ∧ Below W.heap.size W w') := ⟨fun W hW => batch_walk C e cs W (HC.out _ hW) H0.out (by omega) (oddR_small hodd)⟩
  have e2 : Aside0 (wrCode data (batchF cs) = 0 ∧ wrData data (batchF cs) = data ++ batchF cs) := ⟨by unfold wrCode wrData; rw [if_neg (by omega), if_neg (by omega)]; exact ⟨rfl, rfl⟩⟩
  obtain ⟨d1, hd1⟩ : ∃ d1, Aside0 (d1 = data ++ batchF cs) := ⟨_, ⟨rfl⟩⟩
  have hd1l : Aside0 (d1.length ≤ 1200) := ⟨by rw [hd1.out, List.length_append]; omega⟩
  rw [← hd1.out] at hr hu hby e2 ⊢
  obtain ⟨d2, hd2⟩ : ∃ d2, Aside0 (d2 = d1.take (fallN s n d1.length)) := ⟨_, ⟨rfl⟩⟩
  have hby2 : Aside0 (∀ x ∈ d2, 0 ≤ x ∧ x ≤ 255) := ⟨fun x hx => hby x (List.mem_of_mem_take (hd2.out ▸ hx))⟩
  have hd2l : Aside0 (d2.length ≤ 1300) := ⟨by rw [hd2.out, List.length_take]; have := hd1l.out; omega⟩
  rw [← hd2.out] at hr hu ⊢
  have HRd := Aside0.mk hr
  clear hr hby hd1
  generalize batchF cs = bt at *
  go_enter Try.func79, Try.ntmps79
  go_wp2_with (go_at_call 91; refine hcall.out.mono ?_; rintro e w1 ⟨rfl, hb⟩; have HM1 := Aside0.mk (ModT.of_below (T := [95, 5]) (B := base) hb); have HS1 := Aside0.mk (HS.out.below hb); clear hb)
  obtain ⟨A1, c1, B1, b1, hD1, hR1⟩ := HS1.out
  have HD1 := Aside0.mk hD1
  have HR1 := Aside0.mk hR1
  clear hD1 hR1
  go_region_with (first | (go_at_call 92; refine (hcall2.out _ (HM1.out.trans (ModT.of_below (below_drew (Below.refl _ _))))).mono ?_; rintro e w2 ⟨v, rfl, ho, hb⟩; obtain ⟨A2, c2, rfl⟩ := Kd.R_slice ho; have HM2 := Aside0.mk (ModT.of_below (T := [95, 5]) (B := base) (below_step (below_drew (Below.refl _ _)) hb)); have HO2 := Aside0.mk (Kd.R_reads' ho); have HD2 := Aside0.mk (HD1.out.keep (ModT.of_below (T := []) (B := 0) (below_step (below_drew (Below.refl _ _)) hb)) (by simp) (by simp)); have HR2 := Aside0.mk (rowsMod HR1.out (ModT.of_below (T := []) (B := 0) (below_step (below_drew (Below.refl _ _)) hb)) (by simp)); clear ho hb) | (go_at_call 87; refine (disk_Write 95 _ base g _ s data bt A2 c2 _ _ HD2.out (by simp) HO2.out.2.2 HO2.out.2.1 rfl (by omega)).mono ?_; rintro e w3 ⟨v', rfl, hd3, hm3⟩; obtain ⟨A3, c3, rfl⟩ := Kd.R_slice hd3.2.2.1; rw [e2.out.2] at hd3; have HD3 := Aside0.mk hd3; have HR3 := Aside0.mk (rowsMod HR2.out hm3 (by simp)); have HM3 := Aside0.mk ((HM1.out.trans HM2.out).trans hm3); clear hd3 hm3))
  all_goals
    go_wp2_with (first | (go_at_call 90; refine (disk_Fall 95 _ base g _ s d1 n _ HD3.out (by simp) (by have := hd1l.out; omega)).mono ?_; rintro e w4 ⟨v', rfl, hd4, hm4⟩; rw [← hd2.out] at hd4; obtain ⟨A4, c4, rfl⟩ := Kd.R_slice hd4.2.2.1; have HD4 := Aside0.mk hd4; have z4 : w4.cell? ⟨g, 0, none⟩ = some (.slice A4 d2.length c4) := hd4.cells.1; have HR4 := Aside0.mk (rowsMod HR3.out hm4 (by simp)); have HM4 := Aside0.mk (HM3.out.trans hm4); have hcap := Aside0.mk (Kd.R_reads' hd4.2.2.1); clear hd4 hm4) | (go_at_call 59; refine (store_read A4 c4 d2 _ hcap.out.2.2 hcap.out.2.1 hd2l.out hby2.out).mono ?_; rintro e w5 ⟨v5, rfl, ho, hb⟩; rw [HRd.out] at ho ⊢; obtain ⟨B5, b5, rfl⟩ := Kd.R_slice ho; have HD5 := Aside0.mk (HD4.out.keep (ModT.of_below (T := []) (B := 0) hb) (by simp) (by simp)); have HR5 := Aside0.mk (Kd.R_lower ho HD4.out.lt); have HM5 := Aside0.mk (HM4.out.trans (ModT.of_below hb)); clear ho hb) | (go_at_call 89; refine (disk_Trim 95 _ base g _ _ d2 u _ HD5.out (by simp) hu).mono ?_; rintro e w6 ⟨v', rfl, hd6, hm6⟩; obtain ⟨A6, c6, rfl⟩ := Kd.R_slice hd6.2.2.1; have HD6 := Aside0.mk hd6; have HR6 := Aside0.mk (rowsMod HR5.out hm6 (by simp)); have HM6 := Aside0.mk (HM5.out.trans hm6); have f6 := blk_frozen HD6.out.1 2; have z6 : w6.cell? ⟨g, 2, none⟩ = some (.slice B1 t.length b1) := (by rw [blk_cell HD6.out.1]; rfl); clear hd6 hm6))
    go_ret
    exact ⟨rfl, StoreAt.turn HD6.out HR6.out, HM6.out.trans (ModT.set_ HD6.out.1 (by simp) HD6.out.2.1 _)⟩
end Go.Proofs.Ytnjidfgjldkkcaa.Q
/- Plain words on texts as lists of numbers. No program. -/
namespace Go.Proofs.Ytnjidfgjldkkcaa.Plain
open Go.RowKit Go.Proofs.YtnjidfgjldkkcaaW.PrintWords
theorem str_bytes (s : ByteArray) : strOfNums (bytesOf s) = s := by
  unfold bytesOf
  apply Go.WideShapes.bytes_inj
  simp only [strOfNums, List.map_map]
  have e : ((fun n : Int => UInt8.ofNat n.toNat) ∘ fun b : UInt8 => (b.toNat : Int)) = id := by
    funext b
    simp
  rw [e, List.map_id]
theorem str_inj {a b : ByteArray} (h : bytesOf a = bytesOf b) : a = b := by rw [← str_bytes a, ← str_bytes b, h]
theorem str_append (xs ys : List Int) : strOfNums xs ++ strOfNums ys = strOfNums (xs ++ ys) := by
  apply Go.WideShapes.bytes_inj
  simp [strOfNums, ByteArray.data_append]
theorem bytes_extract (s : ByteArray) (a b : Nat) : bytesOf (s.extract a b) = ((bytesOf s).take b).drop a := by
  unfold bytesOf
  rw [ByteArray.data_extract, Array.toList_extract, List.map_take, List.map_drop, List.drop_take]
theorem size_bytes (s : ByteArray) : (bytesOf s).length = s.size := bytesOf_length s
theorem bt_get {s : ByteArray} {i : Nat} (h : i < s.size) : bt s (i : Int) = (bytesOf s)[i]'(by rw [size_bytes]; exact h) := by
  rw [← rd_bytesOf]; exact rd_at _
theorem toList_bytes (s : ByteArray) : bytesOf s = s.toList.map fun b => (b.toNat : Int) := by
  rw [Go.ByteArray.toList_eq]; rfl
theorem toList_inj {a b : ByteArray} : a.toList = b.toList ↔ a = b := by
  constructor
  · intro h; exact str_inj (by rw [toList_bytes, toList_bytes, h])
  · rintro rfl; rfl
end Go.Proofs.Ytnjidfgjldkkcaa.Plain
/- Plain laws of tables in the order of their keys: what a table without a fault is; where a key stands; the binary search. -/
namespace Go.Proofs.Ytnjidfgjldkkcaa.Plain
open Go.RowKit Go.Proofs.Ytnjidfgjldkkcaa.Q Go.Proofs.YtnjidfgjldkkcaaW.PrintWords

/-- One key ahead of another one. -/
def kl (a b : ByteArray) : Bool := Op.bytesLess a.toList b.toList
theorem less_irr : ∀ x : List UInt8, Op.bytesLess x x = false
  | [] => rfl
  | a :: x => by
    have := less_irr x
    have h : ¬ a < a := fun h => by have := UInt8.lt_iff_toNat_lt.1 h; omega
    simp [Op.bytesLess, this]
theorem less_trans : ∀ x y z : List UInt8, Op.bytesLess x y = true → Op.bytesLess y z = true → Op.bytesLess x z = true
  | _, _, [], _, h => by cases ‹List UInt8› <;> simp [Op.bytesLess] at h
  | _, [], _ :: _, h, _ => by cases ‹List UInt8› <;> simp [Op.bytesLess] at h
  | [], _ :: _, _ :: _, _, _ => by simp [Op.bytesLess]
  | a :: x, b :: y, c :: z, h1, h2 => by
    simp only [Op.bytesLess, Bool.or_eq_true, Bool.and_eq_true, decide_eq_true_eq, beq_iff_eq] at h1 h2 ⊢
    rcases h1 with h1 | ⟨rfl, h1⟩
    · rcases h2 with h2 | ⟨rfl, h2⟩
      · exact .inl (UInt8.lt_iff_toNat_lt.2 (by have := UInt8.lt_iff_toNat_lt.1 h1; have := UInt8.lt_iff_toNat_lt.1 h2; omega))
      · exact .inl h1
    · rcases h2 with h2 | ⟨rfl, h2⟩
      · exact .inl h2
      · exact .inr ⟨rfl, less_trans x y z h1 h2⟩
theorem kl_irr (a : ByteArray) : kl a a = false := less_irr _
theorem kl_trans {a b c : ByteArray} (h1 : kl a b = true) (h2 : kl b c = true) : kl a c = true := less_trans _ _ _ h1 h2
theorem kl_asym {a b : ByteArray} (h : kl a b = true) : kl b a = false := by
  cases h2 : kl b a
  · rfl
  · have := kl_trans h h2
    rw [kl_irr] at this
    cases this
theorem kl_tri {a b : ByteArray} (h1 : kl a b = false) (h2 : kl b a = false) : a = b := by
  have := less_or a.toList b.toList
  unfold kl at h1 h2
  rw [h1, h2] at this
  simp only [Bool.false_or, Bool.not_false, beq_iff_eq] at this
  exact toList_inj.1 this

/-- A row that may be in a table. -/
def GoodRow (r : S69) : Prop := 1 ≤ r.f0.size ∧ r.f0.size ≤ 20 ∧ 1 ≤ r.f1.size ∧ r.f1.size ≤ 20
/-- The keys ascend. -/
def Asc (l : List S69) : Prop := l.Pairwise fun a b => kl a.f0 b.f0 = true
theorem fault_zero : ∀ (p : Option ByteArray) (l : List S69), faultFrom p l = 0 → (∀ r ∈ l, GoodRow r) ∧ Asc l ∧ (∀ q, p = some q → ∀ r ∈ l, kl q r.f0 = true)
  | p, [], _ => ⟨by simp, List.Pairwise.nil, by simp⟩
  | p, r :: t, h => by
    unfold faultFrom at h
    by_cases h1 : r.f0.size < 1 ∨ 20 < r.f0.size ∨ 20 < r.f1.size
    · rw [if_pos h1] at h; exact absurd h (by decide)
    rw [if_neg h1] at h
    by_cases h2 : r.f1.size = 0
    · rw [if_pos h2] at h; exact absurd h (by decide)
    rw [if_neg h2] at h
    have key : faultFrom (some r.f0) t = 0 ∧ ∀ q, p = some q → kl q r.f0 = true := by
      cases p with
      | none => exact ⟨h, by simp⟩
      | some q =>
        replace h : (if Op.bytesLess q.toList r.f0.toList = true then faultFrom (some r.f0) t else 7) = 0 := h
        by_cases h3 : Op.bytesLess q.toList r.f0.toList = true
        · rw [if_pos h3] at h
          exact ⟨h, fun q' e => by obtain rfl := Option.some.inj e; exact h3⟩
        · rw [if_neg h3] at h; exact absurd h (by decide)
    obtain ⟨g, a, c⟩ := fault_zero (some r.f0) t key.1
    refine ⟨?_, List.Pairwise.cons (fun x hx => c _ rfl x hx) a, ?_⟩
    · intro x hx
      rcases List.mem_cons.1 hx with rfl | hx
      · exact ⟨by omega, by omega, by omega, by omega⟩
      · exact g x hx
    · intro q hq x hx
      rcases List.mem_cons.1 hx with rfl | hx
      · exact key.2 q hq
      · exact kl_trans (key.2 q hq) (c _ rfl x hx)
theorem rowsErr_zero {l : List S69} (h : rowsErr l = 0) : l.length ≤ 40 ∧ (∀ r ∈ l, GoodRow r) ∧ Asc l := by
  unfold rowsErr at h
  split at h
  · cases h
  · have := fault_zero none l h
    exact ⟨by omega, this.1, this.2.1⟩

/-- How many keys are ahead of k. -/
def cut (l : List S69) (k : ByteArray) : Nat := (l.takeWhile fun r => kl r.f0 k).length
theorem cut_le (l : List S69) (k : ByteArray) : cut l k ≤ l.length := by
  induction l with
  | nil => simp [cut]
  | cons r t ih => unfold cut at *; rw [List.takeWhile_cons]; split <;> simp; omega
theorem cut_less {l : List S69} (ha : Asc l) (k : ByteArray) : ∀ (i : Nat) (h : i < l.length), (kl l[i].f0 k = true ↔ i < cut l k) := by
  induction l with
  | nil => intro i h; simp at h
  | cons r t ih =>
    intro i h
    have ht := ih (List.Pairwise.of_cons ha)
    have hr := (List.pairwise_cons.1 ha).1
    unfold cut at *
    rw [List.takeWhile_cons]
    cases hk : kl r.f0 k
    · simp only [Bool.false_eq_true, if_false, List.length_nil, Nat.not_lt_zero, iff_false]
      cases i with
      | zero => simp [hk]
      | succ i =>
        intro hc
        simp only [List.getElem_cons_succ] at hc
        have := kl_trans (hr _ (List.getElem_mem (by simpa using h))) hc
        rw [hk] at this
        cases this
    · rw [if_pos rfl]
      cases i with
      | zero => simp [hk]
      | succ i =>
        simp only [List.getElem_cons_succ, List.length_cons, Nat.add_lt_add_iff_right]
        exact ht i (by simpa using h)
theorem bs_cut (less : Nat → Bool) (p : Nat) : ∀ (f i j : Nat), (∀ h, i ≤ h → h < j → (less h = true ↔ h < p)) → i ≤ p → p ≤ j → j - i ≤ f → bs less f i j = p
  | 0, i, j, _, h1, h2, h3 => by show i = p; omega
  | f + 1, i, j, hl, h1, h2, h3 => by
    unfold bs
    by_cases hij : i < j
    · rw [if_pos hij]
      have hh := hl ((i + j) / 2) (by omega) (by omega)
      by_cases hb : less ((i + j) / 2) = true
      · rw [if_pos hb]
        have := hh.1 hb
        exact bs_cut less p f _ j (fun h a b => hl h (by omega) b) (by omega) h2 (by omega)
      · rw [if_neg hb]
        have : ¬ (i + j) / 2 < p := fun h => hb (hh.2 h)
        exact bs_cut less p f i _ (fun h a b => hl h a (by omega)) h1 (by omega) (by omega)
    · rw [if_neg hij]; omega
theorem cmpS_neg (a k : ByteArray) : cmpS a k < 0 ↔ kl a k = true := by
  unfold cmpS kl
  constructor
  · intro h
    split at h
    · assumption
    · split at h <;> omega
  · intro h
    rw [if_pos h]; omega
theorem cmpS_zero (a k : ByteArray) : cmpS a k = 0 ↔ a = k := by
  constructor
  · intro h
    unfold cmpS at h
    split at h
    · omega
    · split at h
      · omega
      · exact kl_tri (Bool.eq_false_iff.2 ‹_›) (Bool.eq_false_iff.2 ‹_›)
  · rintro rfl
    unfold cmpS
    have := kl_irr a
    unfold kl at this
    rw [this]
    simp
theorem placeI_cut {l : List S69} (ha : Asc l) (k : ByteArray) : placeI l k = cut l k := by
  refine bs_cut _ _ _ _ _ (fun h _ hh => ?_) (Nat.zero_le _) (cut_le l k) (by omega)
  unfold lessAt
  have e : l.getD h z69 = l[h] := by rw [List.getD_eq_getElem?_getD, List.getElem?_eq_getElem hh]; rfl
  rw [e, decide_eq_true_eq, cmpS_neg]
  exact cut_less ha k h hh
theorem placeB_iff {l : List S69} (ha : Asc l) (k : ByteArray) : placeB l k = true ↔ ∃ h : cut l k < l.length, l[cut l k].f0 = k := by
  unfold placeB
  rw [placeI_cut ha, Bool.and_eq_true, decide_eq_true_eq, decide_eq_true_eq, cmpS_zero]
  constructor
  · rintro ⟨h1, h2⟩
    have e : l.getD (cut l k) z69 = l[cut l k] := by rw [List.getD_eq_getElem?_getD, List.getElem?_eq_getElem h1]; rfl
    rw [e] at h2
    exact ⟨h1, h2⟩
  · rintro ⟨h1, h2⟩
    have e : l.getD (cut l k) z69 = l[cut l k] := by rw [List.getD_eq_getElem?_getD, List.getElem?_eq_getElem h1]; rfl
    rw [e]
    exact ⟨h1, h2⟩
/-- A key that stands there stands at its place. -/
theorem cut_at {l : List S69} (ha : Asc l) {i : Nat} (h : i < l.length) : cut l l[i].f0 = i := by
  have h1 := cut_less ha l[i].f0 i h
  rw [kl_irr] at h1
  simp only [Bool.false_eq_true, false_iff, Nat.not_lt] at h1
  rcases Nat.lt_or_ge (cut l l[i].f0) i with h2 | h2
  · have h3 := cut_less ha l[i].f0 (cut l l[i].f0) (by omega)
    have h4 : kl l[cut l l[i].f0].f0 l[i].f0 = true := List.pairwise_iff_getElem.1 ha _ _ (by omega) h h2
    have := h3.1 h4
    omega
  · omega
end Go.Proofs.Ytnjidfgjldkkcaa.Plain
-- Written for this seat by a program of its session (xp.py over the kit's printer).
namespace Go.Proofs.Ytnjidfgjldkkcaa.Q
open Go.RowKit Go.Proofs.YtnjidfgjldkkcaaW.PrintWords Go.Proofs.YtnjidfgjldkkcaaW.PrintLast Go.Proofs.YtnjidfgjldkkcaaW.PrintMore
attribute [local go_sem] max2_int min2_int max_two min_two max_three min_three max_four min_four xq_geq xq_leq xq_gtr   -- for this text's walks alone
set_option linter.unusedVariables false
set_option linter.unusedSimpArgs false

/-! ### bagnallref_rowsBegin: function 47 -/
def bagnallref_rowsBegin.l0 : Nat → ByteArray → List (S69) → List (S69) → Int → Int → Option ((List (S69)))
  | 0, _, _, _, _, _ => none
  | k + 1, x1, x5, x8, x9, x10 => if x10 < x9 then (if 0 ≤ x10 then (if x10 < (x8.length : Int) then (if (((rd_T69 x8 x10).f0).size : Int) ≥ (x1.size : Int) then (if 0 ≤ (x1.size : Int) then (if (x1.size : Int) ≤ (((rd_T69 x8 x10).f0).size : Int) then (if (((rd_T69 x8 x10).f0).extract 0 x1.size).toList = x1.toList then (if x5.length < 4398046511104 then (bagnallref_rowsBegin.l0 k x1 (x5 ++ [(⟨(rd_T69 x8 x10).f0, (rd_T69 x8 x10).f1⟩ : S69)]) x8 x9 (wrap64 (x10 + 1))) else (none)) else (bagnallref_rowsBegin.l0 k x1 x5 x8 x9 (wrap64 (x10 + 1)))) else (none)) else (none)) else (bagnallref_rowsBegin.l0 k x1 x5 x8 x9 (wrap64 (x10 + 1)))) else (none)) else (none)) else (some x5)
def bagnallref_rowsBegin.f (k : Nat) (l0 : List (S69)) (a1 : ByteArray) : Option ((List (S69))) := bagnallref_rowsBegin.l0 k a1 ([] : List (S69)) l0 (l0.length : Int) 0
theorem bagnallref_rowsBegin.mono_l : ∀ k, (∀ y0 y1 y2 y3 y4, LeO (bagnallref_rowsBegin.l0 k y0 y1 y2 y3 y4) (bagnallref_rowsBegin.l0 (k + 1) y0 y1 y2 y3 y4))
  | 0 => fun _ _ _ _ _ r h => by simp [bagnallref_rowsBegin.l0] at h
  | k + 1 => by
    have ih0 := bagnallref_rowsBegin.mono_l k
    · intro y0 y1 y2 y3 y4
      unfold bagnallref_rowsBegin.l0
      repeat' first
      | (with_reducible exact ih0 _ _ _ _ _)
      | (with_reducible exact LeO.refl _)
      | (with_reducible exact LeO.none _)
      | (with_reducible refine LeO.ite ?_ ?_)
      | (with_reducible refine LeO.bind ?_ (fun _ => ?_))
      | exact ih0 _ _ _ _ _
      | exact LeO.none _
      | refine LeO.ite ?_ ?_
      | refine LeO.bind ?_ (fun _ => ?_)
theorem bagnallref_rowsBegin.mono : ∀ a0 a1 k, LeO (bagnallref_rowsBegin.f k a0 a1) (bagnallref_rowsBegin.f (k + 1) a0 a1) := by
  intro a0 a1 k
  have ih0 := bagnallref_rowsBegin.mono_l k
  unfold bagnallref_rowsBegin.f
  repeat' first
      | (with_reducible exact ih0 _ _ _ _ _)
      | (with_reducible exact LeO.refl _)
      | (with_reducible exact LeO.none _)
      | (with_reducible refine LeO.ite ?_ ?_)
      | (with_reducible refine LeO.bind ?_ (fun _ => ?_))
      | exact ih0 _ _ _ _ _
      | exact LeO.none _
      | refine LeO.ite ?_ ?_
      | refine LeO.bind ?_ (fun _ => ?_)
set_option maxHeartbeats 8000000 in
set_option maxRecDepth 100000 in
theorem bagnallref_rowsBegin.calls (k : Nat) (A0 : Option Addr) (c0 : Nat) (l0 : List (S69)) (a1 : ByteArray) (r : List (S69)) (w : World) (hr0 : Kd.C k69 w A0 l0.length l0) (hc0 : l0.length ≤ c0) (h : bagnallref_rowsBegin.f k l0 a1 = some r) :
    Calls Try.prog 47 #[.slice A0 l0.length c0, .string a1] w fun e w' => ∃ v0_ : Value, e = .returned (v0_) ∧ Kd.R k69 69 w' w.heap.size (fun _ => True) v0_ r ∧ Below w.heap.size w w' := by
  have hu69 := Try.underlying69
  have HR0 := Aside0.mk hr0
  have HC0 := Aside0.mk hc0
  clear hr0 hc0
  have HB := Aside0.mk (Below.refl w.heap.size w)
  have H : (bagnallref_rowsBegin.l0 k a1 ([] : List (S69)) l0 (l0.length : Int) 0) = some r := h
  clear h
  have H' := Aside0.mk H
  clear H
  go_enter Try.func47, Try.ntmps47
  go_wp2
  go_loopg [5, 10] k (fun kq v5 v10 w' => ∃ (x5_1 : List (S69)) (x10_1 : Int), v10 = .int .i64 x10_1 ∧ Aside0 (bagnallref_rowsBegin.l0 kq a1 x5_1 l0 (l0.length : Int) x10_1 = some r) ∧ Aside0 (kq ≤ k) ∧ Aside0 (Kd.R k69 69 w' w.heap.size (fun _ => True) v5 x5_1) ∧ Aside0 (Below w.heap.size w w'))
  case atStart => exact ⟨(([] : List (S69))), (0), (by first | rfl | (simp; done) | (simp [*]; done)), H', ⟨Nat.le_refl _⟩, ⟨by first | exact Kd.R_nil _ _ _ _ _ | exact Kd.N_nil _ _ _ _ _ | exact Kd.V_nil _ _ _ _ _ | exact Kd.Q_nil _ _ _ _ _ | exact Kd.S_nil _ _ _ _ _⟩, ⟨by repeat (first | (with_reducible first | exact HB.out | apply below_alloc | apply pw_below_drewN | apply below_drew1) | exact HB.out)⟩⟩
  case round =>
    clear H'
    try clear p2
    obtain ⟨x5_1, x10_1, rfl, HA, HK1, HO_5, HB⟩ := hrel
    cases gk with
    | zero => exact absurd HA.out (by simp [bagnallref_rowsBegin.l0])
    | succ k1 =>
      have H := HA.out
      clear HA
      simp only [bagnallref_rowsBegin.l0] at H
      by_cases c3 : x10_1 < (l0.length : Int)
      · rw [if_pos c3] at H
        have c3b0 : decide (x10_1 < (l0.length : Int)) = true := decide_eq_true c3
        clear c3
        by_cases c4 : 0 ≤ x10_1
        · rw [if_pos c4] at H
          have c4b0 : decide (0 ≤ x10_1) = true := decide_eq_true c4
          clear c4
          by_cases c5 : x10_1 < (l0.length : Int)
          · rw [if_pos c5] at H
            have c5b0 : decide (x10_1 < (l0.length : Int)) = true := decide_eq_true c5
            clear c5
            by_cases c6 : (((rd_T69 l0 x10_1).f0).size : Int) ≥ (a1.size : Int)
            · rw [if_pos c6] at H
              have c6b0 : decide ((a1.size : Int) ≤ (((rd_T69 l0 x10_1).f0).size : Int)) = true := decide_eq_true c6
              have c6b1 : decide (a1.size ≤ ((rd_T69 l0 x10_1).f0).size) = true := decide_eq_true (Int.ofNat_le.mp c6)
              clear c6
              by_cases c7 : 0 ≤ (a1.size : Int)
              · rw [if_pos c7] at H
                have c7b0 := eq_true c7
                have c7b1 : decide (0 ≤ (a1.size : Int)) = true := decide_eq_true c7
                clear c7
                by_cases c8 : (a1.size : Int) ≤ (((rd_T69 l0 x10_1).f0).size : Int)
                · rw [if_pos c8] at H
                  have c8b0 := eq_true c8
                  have c8b1 : decide ((a1.size : Int) ≤ (((rd_T69 l0 x10_1).f0).size : Int)) = true := decide_eq_true c8
                  clear c8
                  by_cases c9 : (((rd_T69 l0 x10_1).f0).extract 0 a1.size).toList = a1.toList
                  · rw [if_pos c9] at H
                    have c9b0 : ((((rd_T69 l0 x10_1).f0).extract 0 a1.size).toList == a1.toList) = true := beq_iff_eq.mpr c9
                    have c9b1 : ((((rd_T69 l0 x10_1).f0).extract 0 a1.size).toList != a1.toList) = false := bne_eq_false_iff_eq.mpr c9
                    clear c9
                    by_cases c10 : x5_1.length < 4398046511104
                    · rw [if_pos c10] at H
                      have LMc10 := Aside0.mk c10
                      clear c10
                      obtain ⟨y139, hy139⟩ : ∃ y_ : List (S69), y_ = (x5_1 ++ [(⟨(rd_T69 l0 x10_1).f0, (rd_T69 l0 x10_1).f1⟩ : S69)]) := ⟨_, rfl⟩
                      replace H : (bagnallref_rowsBegin.l0 k1 a1 y139 l0 (l0.length : Int) (wrap64 (x10_1 + 1))) = some r := by first | (rw [hy139]; with_reducible exact H) | (have H2_ := (Option.bind_some _ _).symm.trans H; rw [hy139]; with_reducible exact H2_) | (have H2_ := (Option.bind_some _ _).symm.trans H; with_reducible exact H2_) | with_reducible exact H | (rw [hy139]; exact H) | exact H
                      have Ny139 := Aside0.mk hy139
                      clear hy139
                      have H' := Aside0.mk H
                      clear H
                      have p137 : 0 ≤ (x10_1 : Int) := of_decide_eq_true (by first | (with_reducible assumption) | assumption)
                      have q137 : x10_1 < (l0.length : Int) := of_decide_eq_true (by first | (with_reducible assumption) | assumption)
                      obtain ⟨ad137, e137, hx137_0, hx137_1⟩ := at_T69 HR0.out x10_1 p137 q137
                      cases e137
                      replace hx137_0 := (HB.out.cell (World.block_lt_of_cell? w _ hx137_0)).trans hx137_0
                      replace hx137_1 := (HB.out.cell (World.block_lt_of_cell? w _ hx137_1)).trans hx137_1
                      replace p137 := eq_true p137
                      replace q137 := eq_true q137
                      go_wp2_with (first | ((with_reducible refine gate_dst (N := 7) rfl ?_); (try (refine gate_guard (by rfl) ?_; dsimp only)); refine box_event ?hg (N := 7) ?hd (cs := #[.string (⟨#[]⟩ : ByteArray), .string (⟨#[]⟩ : ByteArray)]) (t := 69) ?hr ?_; (case hd => rfl); (case hg => rfl); (case hr => first | (go_simp; done) | (go_simp; rfl)); intro gb138 hg w11 hbox hb; have n0_ := Aside0.mk (Kd.R_below (Kd.R_elderB (by (with_reducible repeat (first | apply Kd.R_alloc | apply Kd.R_drewN | apply Kd.R_drew)); exact HO_5.out) gb138 (Nat.le_of_eq hg.symm)) hb); have n1_ := Aside0.mk (below_step (by repeat (first | (with_reducible first | exact HB.out | apply below_alloc | apply pw_below_drewN | apply below_drew1) | exact HB.out)) hb); have n2_ := Aside0.mk (hbox); have n3_ := Aside0.mk ((by rw [hg]; exact (below_size (by repeat (first | (with_reducible first | exact HB.out | apply below_alloc | apply pw_below_drewN | apply below_drew1) | exact HB.out))) : w.heap.size ≤ gb138)); have n4_ := Aside0.mk ((by rw [hg]; exact (below_size (by repeat (first | (with_reducible first | exact HB.out | apply below_alloc | apply pw_below_drewN | apply below_drew1) | exact HB.out))) : w.heap.size ≤ gb138)); clear HO_5; clear HB; have HO_5 := n0_; have HB := n1_; have BK138 := n2_; have GW138 := n3_; have GE138 := n4_; clear n0_ n1_ n2_ n3_ n4_; clear hb hbox hg; have hcz12_0 : w11.cell? ⟨gb138, 0, none⟩ = some (.string (⟨#[]⟩ : ByteArray)) := (blk_cell BK138.out 0).trans rfl; have hcz12_1 : w11.cell? ⟨gb138, 1, none⟩ = some (.string (⟨#[]⟩ : ByteArray)) := (blk_cell BK138.out 1).trans rfl; have hfz12_0 := blk_frozen BK138.out 0; have hfz12_1 := blk_frozen BK138.out 1) | ((with_reducible refine gate_builtin (b := .append) (xs := #[.tmp 29, .tmp 31]) rfl ?_); (try (refine gate_guard (by rfl) ?_; dsimp only)); at_builtin; refine Kd.R_append k69 (w0 := w) w.heap.size rfl (.tmp 29) (.tmp 31) 24 69 (.agg #[(.string ⟨#[]⟩), (.string ⟨#[]⟩)]) 32 rfl Try.underlying24 info69 rfl (by decide) (by omega) u5 x5_1 (⟨(rd_T69 l0 x10_1).f0, (rd_T69 l0 x10_1).f1⟩ : S69) [.string ((rd_T69 l0 x10_1).f0), .string ((rd_T69 l0 x10_1).f1)] (fun k_ => k_ ≠ gb138) (fun _ => False) rfl (by first | (go_simp; done) | (go_simp; rfl)) ?aP (fun _ hk => hk.elim) ?aF ?aO ?aB ?aS ?aL ?_; (case aP => exact k69_mkM _ _ _ (⟨(rd_T69 l0 x10_1).f0, (rd_T69 l0 x10_1).f1⟩ : S69)); (case aB => exact (by repeat (first | (with_reducible first | exact HB.out | apply below_alloc | apply pw_below_drewN | apply below_drew1 | refine below_set ?_ GE138.out) | exact HB.out))); (case aF => exact (fun k_ hk => Kd.freshB (g := gb138) (o := .cells #[.string ((rd_T69 l0 x10_1).f0), .string ((rd_T69 l0 x10_1).f1)] 69 (0, 0)) (by (with_reducible repeat (first | refine blk_drewN ?_ _ | refine blk_drew ?_ | refine blk_alloc ?_ _)); refine blk_put (cs := #[.string ((rd_T69 l0 x10_1).f0), .string (⟨#[]⟩ : ByteArray)]) ?_ 1 _ rfl; (with_reducible repeat (first | refine blk_drewN ?_ _ | refine blk_drew ?_ | refine blk_alloc ?_ _)); refine blk_put (cs := #[.string (⟨#[]⟩ : ByteArray), .string (⟨#[]⟩ : ByteArray)]) ?_ 0 _ rfl; (with_reducible repeat (first | refine blk_drewN ?_ _ | refine blk_drew ?_ | refine blk_alloc ?_ _)); exact BK138.out) k_ hk)); (case aO => exact (by (with_reducible repeat (first | apply Kd.R_alloc | apply Kd.R_drewN | apply Kd.R_drew)); exact Kd.R_mono (Kd.R_far (p := ⟨gb138, 1, none⟩) (Kd.R_far (p := ⟨gb138, 0, none⟩) (Kd.R_mono HO_5.out (fun k_ hk => (⟨hk, hk.2⟩ : _ ∧ k_ ≠ gb138))) (fun _ hk => hk.2) (.string ((rd_T69 l0 x10_1).f0))) (fun _ hk => hk.2) (.string ((rd_T69 l0 x10_1).f1))) (fun _ hk => hk.1.2))); (case aS => exact (below_size (by repeat (first | (with_reducible first | exact HB.out | apply below_alloc | apply pw_below_drewN | apply below_drew1 | refine below_set ?_ GE138.out) | exact HB.out)))); (case aL => have := LMc10.out; omega); intro v140 w13 ho hb hg hat; rw [← Ny139.out] at ho; have n0_ := Aside0.mk (blk_grown (g := gb138) (o := .cells #[.string ((rd_T69 l0 x10_1).f0), .string ((rd_T69 l0 x10_1).f1)] 69 (0, 0)) (by (with_reducible repeat (first | refine blk_drewN ?_ _ | refine blk_drew ?_ | refine blk_alloc ?_ _)); refine blk_put (cs := #[.string ((rd_T69 l0 x10_1).f0), .string (⟨#[]⟩ : ByteArray)]) ?_ 1 _ rfl; (with_reducible repeat (first | refine blk_drewN ?_ _ | refine blk_drew ?_ | refine blk_alloc ?_ _)); refine blk_put (cs := #[.string (⟨#[]⟩ : ByteArray), .string (⟨#[]⟩ : ByteArray)]) ?_ 0 _ rfl; (with_reducible repeat (first | refine blk_drewN ?_ _ | refine blk_drew ?_ | refine blk_alloc ?_ _)); exact BK138.out) hg (Kd.R_away HO_5.out (fun _ hk => hk.2))); have n1_ := Aside0.mk (hb); have n2_ := Aside0.mk (ho); clear BK138; clear HB; clear HO_5; have BK138 := n0_; have HB := n1_; have HO141 := n2_; clear n0_ n1_ n2_; clear ho hb hg hat))
                      go_roundg k1
                      case measure => have := HK1.out; omega
                      case rel => exact ⟨(y139), (wrap64 (x10_1 + 1)), (by first | rfl | (simp; done) | (simp [*]; done)), H', ⟨by have := HK1.out; omega⟩, ⟨by (with_reducible repeat (first | apply Kd.R_alloc | apply Kd.R_drewN | apply Kd.R_drew)); exact Kd.R_mono HO141.out (fun _ hk => trivial)⟩, ⟨by repeat (first | (with_reducible first | exact HB.out | apply below_alloc | apply pw_below_drewN | apply below_drew1 | refine below_set ?_ GE138.out) | exact HB.out)⟩⟩
                    · rw [if_neg c10] at H
                      exact absurd H (by simp)
                  · rw [if_neg c9] at H
                    have c9b0 : ((((rd_T69 l0 x10_1).f0).extract 0 a1.size).toList == a1.toList) = false := beq_eq_false_iff_ne.mpr c9
                    have c9b1 : ((((rd_T69 l0 x10_1).f0).extract 0 a1.size).toList != a1.toList) = true := bne_iff_ne.mpr c9
                    have H' := Aside0.mk H
                    clear H
                    have p137 : 0 ≤ (x10_1 : Int) := of_decide_eq_true (by first | (with_reducible assumption) | assumption)
                    have q137 : x10_1 < (l0.length : Int) := of_decide_eq_true (by first | (with_reducible assumption) | assumption)
                    obtain ⟨ad137, e137, hx137_0, hx137_1⟩ := at_T69 HR0.out x10_1 p137 q137
                    cases e137
                    replace hx137_0 := (HB.out.cell (World.block_lt_of_cell? w _ hx137_0)).trans hx137_0
                    replace hx137_1 := (HB.out.cell (World.block_lt_of_cell? w _ hx137_1)).trans hx137_1
                    replace p137 := eq_true p137
                    replace q137 := eq_true q137
                    go_wp2_with (first | ((with_reducible refine gate_dst (N := 7) rfl ?_); (try (refine gate_guard (by rfl) ?_; dsimp only)); refine box_event ?hg (N := 7) ?hd (cs := #[.string (⟨#[]⟩ : ByteArray), .string (⟨#[]⟩ : ByteArray)]) (t := 69) ?hr ?_; (case hd => rfl); (case hg => rfl); (case hr => first | (go_simp; done) | (go_simp; rfl)); intro gb138 hg w14 hbox hb; have n0_ := Aside0.mk (Kd.R_below (Kd.R_elderB (by (with_reducible repeat (first | apply Kd.R_alloc | apply Kd.R_drewN | apply Kd.R_drew)); exact HO_5.out) gb138 (Nat.le_of_eq hg.symm)) hb); have n1_ := Aside0.mk (below_step (by repeat (first | (with_reducible first | exact HB.out | apply below_alloc | apply pw_below_drewN | apply below_drew1) | exact HB.out)) hb); have n2_ := Aside0.mk (hbox); have n3_ := Aside0.mk ((by rw [hg]; exact (below_size (by repeat (first | (with_reducible first | exact HB.out | apply below_alloc | apply pw_below_drewN | apply below_drew1) | exact HB.out))) : w.heap.size ≤ gb138)); have n4_ := Aside0.mk ((by rw [hg]; exact (below_size (by repeat (first | (with_reducible first | exact HB.out | apply below_alloc | apply pw_below_drewN | apply below_drew1) | exact HB.out))) : w.heap.size ≤ gb138)); clear HO_5; clear HB; have HO_5 := n0_; have HB := n1_; have BK138 := n2_; have GW138 := n3_; have GE138 := n4_; clear n0_ n1_ n2_ n3_ n4_; clear hb hbox hg; have hcz15_0 : w14.cell? ⟨gb138, 0, none⟩ = some (.string (⟨#[]⟩ : ByteArray)) := (blk_cell BK138.out 0).trans rfl; have hcz15_1 : w14.cell? ⟨gb138, 1, none⟩ = some (.string (⟨#[]⟩ : ByteArray)) := (blk_cell BK138.out 1).trans rfl; have hfz15_0 := blk_frozen BK138.out 0; have hfz15_1 := blk_frozen BK138.out 1))
                    go_roundg k1
                    case measure => have := HK1.out; omega
                    case rel => exact ⟨(x5_1), (wrap64 (x10_1 + 1)), (by first | rfl | (simp; done) | (simp [*]; done)), H', ⟨by have := HK1.out; omega⟩, ⟨by (with_reducible repeat (first | apply Kd.R_alloc | apply Kd.R_drewN | apply Kd.R_drew)); exact Kd.R_mono (Kd.R_far (p := ⟨gb138, 1, none⟩) (Kd.R_far (p := ⟨gb138, 0, none⟩) (Kd.R_mono HO_5.out (fun k_ hk => (⟨hk, hk.2⟩ : _ ∧ k_ ≠ gb138))) (fun _ hk => hk.2) (.string ((rd_T69 l0 x10_1).f0))) (fun _ hk => hk.2) (.string ((rd_T69 l0 x10_1).f1))) (fun _ hk => trivial)⟩, ⟨by repeat (first | (with_reducible first | exact HB.out | apply below_alloc | apply pw_below_drewN | apply below_drew1 | refine below_set ?_ GE138.out) | exact HB.out)⟩⟩
                · rw [if_neg c8] at H
                  exact absurd H (by simp)
              · rw [if_neg c7] at H
                exact absurd H (by simp)
            · rw [if_neg c6] at H
              have c6b0 : decide ((a1.size : Int) ≤ (((rd_T69 l0 x10_1).f0).size : Int)) = false := decide_eq_false c6
              have c6b1 : decide (a1.size ≤ ((rd_T69 l0 x10_1).f0).size) = false := decide_eq_false (fun h => c6 (Int.ofNat_le.mpr h))
              clear c6
              have H' := Aside0.mk H
              clear H
              have p137 : 0 ≤ (x10_1 : Int) := of_decide_eq_true (by first | (with_reducible assumption) | assumption)
              have q137 : x10_1 < (l0.length : Int) := of_decide_eq_true (by first | (with_reducible assumption) | assumption)
              obtain ⟨ad137, e137, hx137_0, hx137_1⟩ := at_T69 HR0.out x10_1 p137 q137
              cases e137
              replace hx137_0 := (HB.out.cell (World.block_lt_of_cell? w _ hx137_0)).trans hx137_0
              replace hx137_1 := (HB.out.cell (World.block_lt_of_cell? w _ hx137_1)).trans hx137_1
              replace p137 := eq_true p137
              replace q137 := eq_true q137
              go_wp2_with (first | ((with_reducible refine gate_dst (N := 7) rfl ?_); (try (refine gate_guard (by rfl) ?_; dsimp only)); refine box_event ?hg (N := 7) ?hd (cs := #[.string (⟨#[]⟩ : ByteArray), .string (⟨#[]⟩ : ByteArray)]) (t := 69) ?hr ?_; (case hd => rfl); (case hg => rfl); (case hr => first | (go_simp; done) | (go_simp; rfl)); intro gb138 hg w16 hbox hb; have n0_ := Aside0.mk (Kd.R_below (Kd.R_elderB (by (with_reducible repeat (first | apply Kd.R_alloc | apply Kd.R_drewN | apply Kd.R_drew)); exact HO_5.out) gb138 (Nat.le_of_eq hg.symm)) hb); have n1_ := Aside0.mk (below_step (by repeat (first | (with_reducible first | exact HB.out | apply below_alloc | apply pw_below_drewN | apply below_drew1) | exact HB.out)) hb); have n2_ := Aside0.mk (hbox); have n3_ := Aside0.mk ((by rw [hg]; exact (below_size (by repeat (first | (with_reducible first | exact HB.out | apply below_alloc | apply pw_below_drewN | apply below_drew1) | exact HB.out))) : w.heap.size ≤ gb138)); have n4_ := Aside0.mk ((by rw [hg]; exact (below_size (by repeat (first | (with_reducible first | exact HB.out | apply below_alloc | apply pw_below_drewN | apply below_drew1) | exact HB.out))) : w.heap.size ≤ gb138)); clear HO_5; clear HB; have HO_5 := n0_; have HB := n1_; have BK138 := n2_; have GW138 := n3_; have GE138 := n4_; clear n0_ n1_ n2_ n3_ n4_; clear hb hbox hg; have hcz17_0 : w16.cell? ⟨gb138, 0, none⟩ = some (.string (⟨#[]⟩ : ByteArray)) := (blk_cell BK138.out 0).trans rfl; have hcz17_1 : w16.cell? ⟨gb138, 1, none⟩ = some (.string (⟨#[]⟩ : ByteArray)) := (blk_cell BK138.out 1).trans rfl; have hfz17_0 := blk_frozen BK138.out 0; have hfz17_1 := blk_frozen BK138.out 1))
              go_roundg k1
              case measure => have := HK1.out; omega
              case rel => exact ⟨(x5_1), (wrap64 (x10_1 + 1)), (by first | rfl | (simp; done) | (simp [*]; done)), H', ⟨by have := HK1.out; omega⟩, ⟨by (with_reducible repeat (first | apply Kd.R_alloc | apply Kd.R_drewN | apply Kd.R_drew)); exact Kd.R_mono (Kd.R_far (p := ⟨gb138, 1, none⟩) (Kd.R_far (p := ⟨gb138, 0, none⟩) (Kd.R_mono HO_5.out (fun k_ hk => (⟨hk, hk.2⟩ : _ ∧ k_ ≠ gb138))) (fun _ hk => hk.2) (.string ((rd_T69 l0 x10_1).f0))) (fun _ hk => hk.2) (.string ((rd_T69 l0 x10_1).f1))) (fun _ hk => trivial)⟩, ⟨by repeat (first | (with_reducible first | exact HB.out | apply below_alloc | apply pw_below_drewN | apply below_drew1 | refine below_set ?_ GE138.out) | exact HB.out)⟩⟩
          · rw [if_neg c5] at H
            exact absurd H (by simp)
        · rw [if_neg c4] at H
          exact absurd H (by simp)
      · rw [if_neg c3] at H
        have c3b0 : decide (x10_1 < (l0.length : Int)) = false := decide_eq_false c3
        clear c3
        obtain rfl := Option.some.inj H
        go_wp2
        go_ret
        exact ⟨_, by first | rfl | (simp [errW_none, errW_some] <;> rfl) | (simp [*, errW_none, errW_some] <;> rfl), by (with_reducible repeat (first | apply Kd.R_alloc | apply Kd.R_drewN | apply Kd.R_drew)); exact HO_5.out, by repeat (first | (with_reducible first | exact HB.out | apply below_alloc | apply pw_below_drewN | apply below_drew1) | exact HB.out)⟩

/-! ### bagnallref_RowsFind: function 21 -/
def bagnallref_RowsFind.l0 : Nat → ByteArray → List (S69) → Int → Int → Option (ByteArray × Int)
  | 0, _, _, _, _ => none
  | k + 1, x1, x14, x15, x16 => if x16 < x15 then (if 0 ≤ x16 then (if x16 < (x14.length : Int) then (if ((rd_T69 x14 x16).f0).toList = x1.toList then (some ((rd_T69 x14 x16).f1, 0)) else (bagnallref_RowsFind.l0 k x1 x14 x15 (wrap64 (x16 + 1)))) else (none)) else (none)) else (some ((⟨#[]⟩ : ByteArray), 8))
def bagnallref_RowsFind.f (k : Nat) (l0 : List (S69)) (a1 : ByteArray) : Option (ByteArray × Int) := (bagnallref_RowsFault.f k l0).bind fun t142 => (if t142 = 0 then (bagnallref_RowsFind.l0 k a1 l0 (l0.length : Int) 0) else (some ((⟨#[]⟩ : ByteArray), t142)))
theorem bagnallref_RowsFind.mono_l : ∀ k, (∀ y0 y1 y2 y3, LeO (bagnallref_RowsFind.l0 k y0 y1 y2 y3) (bagnallref_RowsFind.l0 (k + 1) y0 y1 y2 y3))
  | 0 => fun _ _ _ _ r h => by simp [bagnallref_RowsFind.l0] at h
  | k + 1 => by
    have ih0 := bagnallref_RowsFind.mono_l k
    · intro y0 y1 y2 y3
      unfold bagnallref_RowsFind.l0
      repeat' first
      | (with_reducible exact ih0 _ _ _ _)
      | (with_reducible exact bagnallref_RowsFault.mono _ _)
      | (with_reducible exact LeO.refl _)
      | (with_reducible exact LeO.none _)
      | (with_reducible refine LeO.ite ?_ ?_)
      | (with_reducible refine LeO.bind ?_ (fun _ => ?_))
      | exact ih0 _ _ _ _
      | exact bagnallref_RowsFault.mono _ _
      | exact LeO.none _
      | refine LeO.ite ?_ ?_
      | refine LeO.bind ?_ (fun _ => ?_)
theorem bagnallref_RowsFind.mono : ∀ a0 a1 k, LeO (bagnallref_RowsFind.f k a0 a1) (bagnallref_RowsFind.f (k + 1) a0 a1) := by
  intro a0 a1 k
  have ih0 := bagnallref_RowsFind.mono_l k
  unfold bagnallref_RowsFind.f
  repeat' first
      | (with_reducible exact ih0 _ _ _ _)
      | (with_reducible exact bagnallref_RowsFault.mono _ _)
      | (with_reducible exact LeO.refl _)
      | (with_reducible exact LeO.none _)
      | (with_reducible refine LeO.ite ?_ ?_)
      | (with_reducible refine LeO.bind ?_ (fun _ => ?_))
      | exact ih0 _ _ _ _
      | exact bagnallref_RowsFault.mono _ _
      | exact LeO.none _
      | refine LeO.ite ?_ ?_
      | refine LeO.bind ?_ (fun _ => ?_)
set_option maxHeartbeats 8000000 in
set_option maxRecDepth 100000 in
theorem bagnallref_RowsFind.calls (k : Nat) (A0 : Option Addr) (c0 : Nat) (l0 : List (S69)) (a1 : ByteArray) (r1 : ByteArray) (r2 : Int) (w : World) (hr0 : Kd.C k69 w A0 l0.length l0) (hc0 : l0.length ≤ c0) (h : bagnallref_RowsFind.f k l0 a1 = some (r1, r2)) :
    Calls Try.prog 21 #[.slice A0 l0.length c0, .string a1] w fun e w' => e = .returned (.tuple #[.string r1, .int .i64 r2]) ∧ Below w.heap.size w w' := by
  have hu69 := Try.underlying69
  have HR0 := Aside0.mk hr0
  have HC0 := Aside0.mk hc0
  clear hr0 hc0
  have HB := Aside0.mk (Below.refl w.heap.size w)
  have H : ((bagnallref_RowsFault.f k l0).bind fun t142 => (if t142 = 0 then (bagnallref_RowsFind.l0 k a1 l0 (l0.length : Int) 0) else (some ((⟨#[]⟩ : ByteArray), t142)))) = some (r1, r2) := h
  clear h
  replace H := Option.bind_eq_some_iff.mp H
  obtain ⟨t142, A30, H⟩ := H
  replace H : (if t142 = 0 then (bagnallref_RowsFind.l0 k a1 l0 (l0.length : Int) 0) else (some ((⟨#[]⟩ : ByteArray), t142))) = some (r1, r2) := H
  have A3 := Aside0.mk A30
  clear A30
  by_cases c4 : t142 = 0
  · rw [if_pos c4] at H
    have c4b0 : (t142 == 0) = true := beq_iff_eq.mpr c4
    have c4b1 : (t142 != 0) = false := bne_eq_false_iff_eq.mpr c4
    clear c4
    have H' := Aside0.mk H
    clear H
    go_enter Try.func21, Try.ntmps21
    go_wp2_with (first | ((with_reducible refine gate_callee (f := 19) rfl ?_); refine goesL_ (some 10) rfl rfl Try.func19 (by kernel_rfl) rfl #[.slice A0 l0.length c0] rfl (by (try simp only [List.map_toArray, List.map_cons, List.map_nil]); first | done | rfl | (simp only [List.length_drop, List.length_take]; rfl)) ?_; (with_reducible refine (bagnallref_RowsFault.calls k _ _ l0 t142 _ ?side1 ?side2 A3.out).mono ?_); (case side1 => repeat (first | exact HR0.out | (with_reducible refine Kd.C_alloc ?_ _) | (with_reducible refine Kd.C_drewN ?_ _) | (with_reducible refine Kd.C_drew ?_))); (case side2 => exact HC0.out); rintro e w5 ⟨rfl, hb⟩; refine ⟨_, rfl, ?_⟩; have n0_ := Aside0.mk (below_step (by repeat (first | (with_reducible first | exact HB.out | apply below_alloc | apply pw_below_drewN | apply below_drew1) | exact HB.out)) hb); clear HB; have HB := n0_; clear n0_; (try clear hb); (try clear hb2); (try clear hk); (try clear hi)))
    go_loopg [16] k (fun kq v16 w' => ∃ (x16_1 : Int), v16 = .int .i64 x16_1 ∧ Aside0 (bagnallref_RowsFind.l0 kq a1 l0 (l0.length : Int) x16_1 = some (r1, r2)) ∧ Aside0 (kq ≤ k) ∧ Aside0 (Below w.heap.size w w'))
    case atStart => exact ⟨(0), (by first | rfl | (simp; done) | (simp [*]; done)), H', ⟨Nat.le_refl _⟩, ⟨by repeat (first | (with_reducible first | exact HB.out | apply below_alloc | apply pw_below_drewN | apply below_drew1) | exact HB.out)⟩⟩
    case round =>
      clear H'
      try clear c1
      try clear c2
      try clear p2
      try clear c4
      try clear c4b0
      try clear c4b1
      obtain ⟨x16_1, rfl, HA, HK1, HB⟩ := hrel
      cases gk with
      | zero => exact absurd HA.out (by simp [bagnallref_RowsFind.l0])
      | succ k1 =>
        have H := HA.out
        clear HA
        simp only [bagnallref_RowsFind.l0] at H
        by_cases c6 : x16_1 < (l0.length : Int)
        · rw [if_pos c6] at H
          have c6b0 : decide (x16_1 < (l0.length : Int)) = true := decide_eq_true c6
          clear c6
          by_cases c7 : 0 ≤ x16_1
          · rw [if_pos c7] at H
            have c7b0 : decide (0 ≤ x16_1) = true := decide_eq_true c7
            clear c7
            by_cases c8 : x16_1 < (l0.length : Int)
            · rw [if_pos c8] at H
              have c8b0 : decide (x16_1 < (l0.length : Int)) = true := decide_eq_true c8
              clear c8
              by_cases c9 : ((rd_T69 l0 x16_1).f0).toList = a1.toList
              · rw [if_pos c9] at H
                have c9b0 : (((rd_T69 l0 x16_1).f0).toList == a1.toList) = true := beq_iff_eq.mpr c9
                have c9b1 : (((rd_T69 l0 x16_1).f0).toList != a1.toList) = false := bne_eq_false_iff_eq.mpr c9
                clear c9
                simp only [Option.some.injEq, Prod.mk.injEq] at H
                obtain ⟨rfl, rfl⟩ := H
                have p143 : 0 ≤ (x16_1 : Int) := of_decide_eq_true (by first | (with_reducible assumption) | assumption)
                have q143 : x16_1 < (l0.length : Int) := of_decide_eq_true (by first | (with_reducible assumption) | assumption)
                obtain ⟨ad143, e143, hx143_0, hx143_1⟩ := at_T69 HR0.out x16_1 p143 q143
                cases e143
                replace hx143_0 := (HB.out.cell (World.block_lt_of_cell? w _ hx143_0)).trans hx143_0
                replace hx143_1 := (HB.out.cell (World.block_lt_of_cell? w _ hx143_1)).trans hx143_1
                replace p143 := eq_true p143
                replace q143 := eq_true q143
                go_wp2_with (first | ((with_reducible refine gate_dst (N := 8) rfl ?_); refine box_event ?hg (N := 8) ?hd (cs := #[.string (⟨#[]⟩ : ByteArray), .string (⟨#[]⟩ : ByteArray)]) (t := 69) ?hr ?_; (case hd => rfl); (case hg => rfl); (case hr => first | (go_simp; done) | (go_simp; rfl)); intro gb144 hg w10 hbox hb; have n0_ := Aside0.mk (below_step (by repeat (first | (with_reducible first | exact HB.out | apply below_alloc | apply pw_below_drewN | apply below_drew1) | exact HB.out)) hb); have n1_ := Aside0.mk (hbox); have n2_ := Aside0.mk ((by rw [hg]; exact (below_size (by repeat (first | (with_reducible first | exact HB.out | apply below_alloc | apply pw_below_drewN | apply below_drew1) | exact HB.out))) : w.heap.size ≤ gb144)); have n3_ := Aside0.mk ((by rw [hg]; exact (below_size (by repeat (first | (with_reducible first | exact HB.out | apply below_alloc | apply pw_below_drewN | apply below_drew1) | exact HB.out))) : w.heap.size ≤ gb144)); clear HB; have HB := n0_; have BK144 := n1_; have GW144 := n2_; have GE144 := n3_; clear n0_ n1_ n2_ n3_; clear hb hbox hg; have hcz11_0 : w10.cell? ⟨gb144, 0, none⟩ = some (.string (⟨#[]⟩ : ByteArray)) := (blk_cell BK144.out 0).trans rfl; have hcz11_1 : w10.cell? ⟨gb144, 1, none⟩ = some (.string (⟨#[]⟩ : ByteArray)) := (blk_cell BK144.out 1).trans rfl; have hfz11_0 := blk_frozen BK144.out 0; have hfz11_1 := blk_frozen BK144.out 1))
                go_ret2
                exact ⟨by first | rfl | (simp [errW_none, errW_some] <;> rfl) | (simp [*, errW_none, errW_some] <;> rfl), by repeat (first | (with_reducible first | exact HB.out | apply below_alloc | apply pw_below_drewN | apply below_drew1 | refine below_set ?_ GE144.out) | exact HB.out)⟩
              · rw [if_neg c9] at H
                have c9b0 : (((rd_T69 l0 x16_1).f0).toList == a1.toList) = false := beq_eq_false_iff_ne.mpr c9
                have c9b1 : (((rd_T69 l0 x16_1).f0).toList != a1.toList) = true := bne_iff_ne.mpr c9
                have H' := Aside0.mk H
                clear H
                have p143 : 0 ≤ (x16_1 : Int) := of_decide_eq_true (by first | (with_reducible assumption) | assumption)
                have q143 : x16_1 < (l0.length : Int) := of_decide_eq_true (by first | (with_reducible assumption) | assumption)
                obtain ⟨ad143, e143, hx143_0, hx143_1⟩ := at_T69 HR0.out x16_1 p143 q143
                cases e143
                replace hx143_0 := (HB.out.cell (World.block_lt_of_cell? w _ hx143_0)).trans hx143_0
                replace hx143_1 := (HB.out.cell (World.block_lt_of_cell? w _ hx143_1)).trans hx143_1
                replace p143 := eq_true p143
                replace q143 := eq_true q143
                go_wp2_with (first | ((with_reducible refine gate_dst (N := 8) rfl ?_); refine box_event ?hg (N := 8) ?hd (cs := #[.string (⟨#[]⟩ : ByteArray), .string (⟨#[]⟩ : ByteArray)]) (t := 69) ?hr ?_; (case hd => rfl); (case hg => rfl); (case hr => first | (go_simp; done) | (go_simp; rfl)); intro gb144 hg w12 hbox hb; have n0_ := Aside0.mk (below_step (by repeat (first | (with_reducible first | exact HB.out | apply below_alloc | apply pw_below_drewN | apply below_drew1) | exact HB.out)) hb); have n1_ := Aside0.mk (hbox); have n2_ := Aside0.mk ((by rw [hg]; exact (below_size (by repeat (first | (with_reducible first | exact HB.out | apply below_alloc | apply pw_below_drewN | apply below_drew1) | exact HB.out))) : w.heap.size ≤ gb144)); have n3_ := Aside0.mk ((by rw [hg]; exact (below_size (by repeat (first | (with_reducible first | exact HB.out | apply below_alloc | apply pw_below_drewN | apply below_drew1) | exact HB.out))) : w.heap.size ≤ gb144)); clear HB; have HB := n0_; have BK144 := n1_; have GW144 := n2_; have GE144 := n3_; clear n0_ n1_ n2_ n3_; clear hb hbox hg; have hcz13_0 : w12.cell? ⟨gb144, 0, none⟩ = some (.string (⟨#[]⟩ : ByteArray)) := (blk_cell BK144.out 0).trans rfl; have hcz13_1 : w12.cell? ⟨gb144, 1, none⟩ = some (.string (⟨#[]⟩ : ByteArray)) := (blk_cell BK144.out 1).trans rfl; have hfz13_0 := blk_frozen BK144.out 0; have hfz13_1 := blk_frozen BK144.out 1))
                go_roundg k1
                case measure => have := HK1.out; omega
                case rel => exact ⟨(wrap64 (x16_1 + 1)), (by first | rfl | (simp; done) | (simp [*]; done)), H', ⟨by have := HK1.out; omega⟩, ⟨by repeat (first | (with_reducible first | exact HB.out | apply below_alloc | apply pw_below_drewN | apply below_drew1 | refine below_set ?_ GE144.out) | exact HB.out)⟩⟩
            · rw [if_neg c8] at H
              exact absurd H (by simp)
          · rw [if_neg c7] at H
            exact absurd H (by simp)
        · rw [if_neg c6] at H
          have c6b0 : decide (x16_1 < (l0.length : Int)) = false := decide_eq_false c6
          clear c6
          simp only [Option.some.injEq, Prod.mk.injEq] at H
          obtain ⟨rfl, rfl⟩ := H
          go_wp2
          go_ret2
          exact ⟨by first | rfl | (simp [errW_none, errW_some] <;> rfl) | (simp [*, errW_none, errW_some] <;> rfl), by repeat (first | (with_reducible first | exact HB.out | apply below_alloc | apply pw_below_drewN | apply below_drew1) | exact HB.out)⟩
  · rw [if_neg c4] at H
    have c4b0 : (t142 == 0) = false := beq_eq_false_iff_ne.mpr c4
    have c4b1 : (t142 != 0) = true := bne_iff_ne.mpr c4
    simp only [Option.some.injEq, Prod.mk.injEq] at H
    obtain ⟨rfl, rfl⟩ := H
    go_enter Try.func21, Try.ntmps21
    go_wp2_with (first | ((with_reducible refine gate_callee (f := 19) rfl ?_); refine goesL_ (some 10) rfl rfl Try.func19 (by kernel_rfl) rfl #[.slice A0 l0.length c0] rfl (by (try simp only [List.map_toArray, List.map_cons, List.map_nil]); first | done | rfl | (simp only [List.length_drop, List.length_take]; rfl)) ?_; (with_reducible refine (bagnallref_RowsFault.calls k _ _ l0 t142 _ ?side1 ?side2 A3.out).mono ?_); (case side1 => repeat (first | exact HR0.out | (with_reducible refine Kd.C_alloc ?_ _) | (with_reducible refine Kd.C_drewN ?_ _) | (with_reducible refine Kd.C_drew ?_))); (case side2 => exact HC0.out); rintro e w14 ⟨rfl, hb⟩; refine ⟨_, rfl, ?_⟩; have n0_ := Aside0.mk (below_step (by repeat (first | (with_reducible first | exact HB.out | apply below_alloc | apply pw_below_drewN | apply below_drew1) | exact HB.out)) hb); clear HB; have HB := n0_; clear n0_; (try clear hb); (try clear hb2); (try clear hk); (try clear hi)))
    go_ret2
    exact ⟨by first | rfl | (simp [errW_none, errW_some] <;> rfl) | (simp [*, errW_none, errW_some] <;> rfl), by repeat (first | (with_reducible first | exact HB.out | apply below_alloc | apply pw_below_drewN | apply below_drew1) | exact HB.out)⟩

/-! ### stringslite_HasSuffix: function 65 -/
def stringslite_HasSuffix.f (a0 : ByteArray) (a1 : ByteArray) : Option (Bool) := if (a0.size : Int) ≥ (a1.size : Int) then (if 0 ≤ (wrap64 ((a0.size : Int) - (a1.size : Int))) then (if (wrap64 ((a0.size : Int) - (a1.size : Int))) ≤ (a0.size : Int) then (some ((a0.extract ((wrap64 ((a0.size : Int) - (a1.size : Int))) : Int).toNat a0.size).toList == a1.toList)) else (none)) else (none)) else (some false)
set_option maxHeartbeats 8000000 in
set_option maxRecDepth 100000 in
theorem stringslite_HasSuffix.calls (a0 : ByteArray) (a1 : ByteArray) (r : Bool) (w : World) (h : stringslite_HasSuffix.f a0 a1 = some r) :
    Calls Try.prog 65 #[.string a0, .string a1] w fun e w' => e = .returned (.bool r) ∧ Drawn0 w w' := by
  have H : (if (a0.size : Int) ≥ (a1.size : Int) then (if 0 ≤ (wrap64 ((a0.size : Int) - (a1.size : Int))) then (if (wrap64 ((a0.size : Int) - (a1.size : Int))) ≤ (a0.size : Int) then (some ((a0.extract ((wrap64 ((a0.size : Int) - (a1.size : Int))) : Int).toNat a0.size).toList == a1.toList)) else (none)) else (none)) else (some false)) = some r := h
  clear h
  by_cases c3 : (a0.size : Int) ≥ (a1.size : Int)
  · rw [if_pos c3] at H
    have c3b0 : decide ((a1.size : Int) ≤ (a0.size : Int)) = true := decide_eq_true c3
    have c3b1 : decide (a1.size ≤ a0.size) = true := decide_eq_true (Int.ofNat_le.mp c3)
    clear c3
    obtain ⟨ji4, hji4⟩ : ∃ j_ : Int, (wrap64 ((a0.size : Int) - (a1.size : Int))) = j_ := ⟨_, rfl⟩
    replace H : (if 0 ≤ (ji4) then (if (ji4) ≤ (a0.size : Int) then (some ((a0.extract ((ji4) : Int).toNat a0.size).toList == a1.toList)) else (none)) else (none)) = some r := by first | (rw [hji4] at H; exact H) | (simp only [hji4] at H ⊢; exact H)
    have hji4w : (IntKind.i64.wrap ((a0.size : Int) - (a1.size : Int))) = ji4 := (i64_w _).trans hji4
    by_cases c5 : 0 ≤ (ji4)
    · rw [if_pos c5] at H
      have c5b0 := eq_true c5
      have c5b1 : decide (0 ≤ (ji4)) = true := decide_eq_true c5
      clear c5
      by_cases c6 : (ji4) ≤ (a0.size : Int)
      · rw [if_pos c6] at H
        have c6b0 := eq_true c6
        have c6b1 : decide ((ji4) ≤ (a0.size : Int)) = true := decide_eq_true c6
        clear c6
        obtain rfl := Option.some.inj H
        go_enter Try.func65, Try.ntmps65
        go_wp2
        go_ret
        exact ⟨by first | rfl | (simp; done) | (simp only [← hji4] <;> (first | rfl | simp)) | (simp [*]; done), by repeat (first | exact Drawn0.refl _ | apply Drawn0.step)⟩
      · rw [if_neg c6] at H
        exact absurd H (by simp)
    · rw [if_neg c5] at H
      exact absurd H (by simp)
  · rw [if_neg c3] at H
    have c3b0 : decide ((a1.size : Int) ≤ (a0.size : Int)) = false := decide_eq_false c3
    have c3b1 : decide (a1.size ≤ a0.size) = false := decide_eq_false (fun h => c3 (Int.ofNat_le.mpr h))
    clear c3
    obtain rfl := Option.some.inj H
    go_enter Try.func65, Try.ntmps65
    go_wp2
    go_ret
    exact ⟨by first | rfl | (simp; done) | (simp [*]; done), by repeat (first | exact Drawn0.refl _ | apply Drawn0.step)⟩

/-! ### strings_HasSuffix: function 43 -/
def strings_HasSuffix.f (a0 : ByteArray) (a1 : ByteArray) : Option (Bool) := (stringslite_HasSuffix.f a0 a1).bind fun t145 => (some t145)
set_option maxHeartbeats 8000000 in
set_option maxRecDepth 100000 in
theorem strings_HasSuffix.calls (a0 : ByteArray) (a1 : ByteArray) (r : Bool) (w : World) (h : strings_HasSuffix.f a0 a1 = some r) :
    Calls Try.prog 43 #[.string a0, .string a1] w fun e w' => e = .returned (.bool r) ∧ Drawn0 w w' := by
  have H : ((stringslite_HasSuffix.f a0 a1).bind fun t145 => (some t145)) = some r := h
  clear h
  replace H := Option.bind_eq_some_iff.mp H
  obtain ⟨t145, A30, H⟩ := H
  replace H : (some t145) = some r := H
  have A3 := Aside0.mk A30
  clear A30
  obtain rfl := Option.some.inj H
  go_enter Try.func43, Try.ntmps43
  go_wp2_with (first | ((with_reducible refine gate_callee (f := 65) rfl ?_); refine goesL_ (some 7) rfl rfl Try.func65 (by kernel_rfl) rfl #[.string a0, .string a1] rfl (by (try simp only [List.map_toArray, List.map_cons, List.map_nil]); first | done | rfl | (simp only [List.length_drop, List.length_take]; rfl)) ?_; (with_reducible refine (stringslite_HasSuffix.calls a0 a1 t145 _ A3.out).mono ?_); rintro e w' ⟨rfl, ⟨nd, rfl⟩⟩; refine ⟨_, rfl, ?_⟩))
  go_ret
  exact ⟨by first | rfl | (simp; done) | (simp [*]; done), by repeat (first | exact Drawn0.refl _ | apply Drawn0.step)⟩

end Go.Proofs.Ytnjidfgjldkkcaa.Q
-- Written for this seat by a program of its session (xp.py over the kit's printer).
namespace Go.Proofs.Ytnjidfgjldkkcaa.Q
open Go.RowKit Go.Proofs.YtnjidfgjldkkcaaW.PrintWords Go.Proofs.YtnjidfgjldkkcaaW.PrintLast Go.Proofs.YtnjidfgjldkkcaaW.PrintMore
attribute [local go_sem] max2_int min2_int max_two min_two max_three min_three max_four min_four xq_geq xq_leq xq_gtr   -- for this text's walks alone
set_option linter.unusedVariables false
set_option linter.unusedSimpArgs false

/-! ### rows_Next: function 16 -/
def rows_Next.l0 : Nat → ByteArray → Option (ByteArray)
  | 0, _ => none
  | k + 1, x0 => (strings_HasSuffix.f x0 (⟨#[255]⟩ : ByteArray)).bind fun t101 => (if t101 = true then (if 0 ≤ (wrap64 ((x0.size : Int) - 1)) then (if (wrap64 ((x0.size : Int) - 1)) ≤ (x0.size : Int) then (rows_Next.l0 k (x0.extract 0 ((wrap64 ((x0.size : Int) - 1)) : Int).toNat)) else (none)) else (none)) else (if x0.toList = ([] : List UInt8) then (some (⟨#[]⟩ : ByteArray)) else (if 0 ≤ (wrap64 ((x0.size : Int) - 1)) then (if (wrap64 ((x0.size : Int) - 1)) ≤ (x0.size : Int) then (if (wrap64 ((x0.size : Int) - 1)) < (x0.size : Int) then ((some (([((bt x0 (wrap64 ((x0.size : Int) - 1))) + 1) % 256] : List Int) : List Int)).bind fun y102 => (if (x0.extract 0 ((wrap64 ((x0.size : Int) - 1)) : Int).toNat).size + (strOfNums y102).size ≤ 9223372036854775807 then (some ((x0.extract 0 ((wrap64 ((x0.size : Int) - 1)) : Int).toNat) ++ (strOfNums y102))) else (none))) else (none)) else (none)) else (none))))
def rows_Next.f (k : Nat) (a0 : ByteArray) : Option (ByteArray) := rows_Next.l0 k a0
theorem rows_Next.mono_l : ∀ k, (∀ y0, LeO (rows_Next.l0 k y0) (rows_Next.l0 (k + 1) y0))
  | 0 => fun _ r h => by simp [rows_Next.l0] at h
  | k + 1 => by
    have ih0 := rows_Next.mono_l k
    · intro y0
      unfold rows_Next.l0
      repeat' first
      | (with_reducible exact ih0 _)
      | (with_reducible exact LeO.refl _)
      | (with_reducible exact LeO.none _)
      | (with_reducible refine LeO.ite ?_ ?_)
      | (with_reducible refine LeO.bind ?_ (fun _ => ?_))
      | exact ih0 _
      | exact LeO.none _
      | refine LeO.ite ?_ ?_
      | refine LeO.bind ?_ (fun _ => ?_)
theorem rows_Next.mono : ∀ a0 k, LeO (rows_Next.f k a0) (rows_Next.f (k + 1) a0) := by
  intro a0 k
  have ih0 := rows_Next.mono_l k
  unfold rows_Next.f
  repeat' first
      | (with_reducible exact ih0 _)
      | (with_reducible exact LeO.refl _)
      | (with_reducible exact LeO.none _)
      | (with_reducible refine LeO.ite ?_ ?_)
      | (with_reducible refine LeO.bind ?_ (fun _ => ?_))
      | exact ih0 _
      | exact LeO.none _
      | refine LeO.ite ?_ ?_
      | refine LeO.bind ?_ (fun _ => ?_)
def rows_Next.T6 : Bool × List (List Nat × List Nat) := (true, [([], []), ([], []), ([0, 1], [0, 1]), ([], []), ([], []), ([3, 4], [3, 4]), ([5], [5]), ([6], [6]), ([7], [7]), ([2, 8], [2, 8]), ([9, 0, 1, 2, 3, 4, 5, 6, 7, 8, 9], [9])])
def rows_Next.B6 : List Nat := [0, 0, 3, 0, 0, 24, 56, 120, 248, 511, 1023]
theorem rows_Next.tab6 : rtab .any (opsOf Try.f16 6) = rows_Next.T6 := by kernel_rfl
theorem rows_Next.bits6 : waitsOk rows_Next.T6.2 rows_Next.B6 = true := by kernel_rfl
set_option maxHeartbeats 8000000 in
set_option maxRecDepth 100000 in
theorem rows_Next.calls (k : Nat) (a0 : ByteArray) (r : ByteArray) (w : World) (h : rows_Next.f k a0 = some r) :
    Calls Try.prog 16 #[.string a0] w fun e w' => e = .returned (.string r) ∧ Below w.heap.size w w' := by
  have HB := Aside0.mk (Below.refl w.heap.size w)
  have H : (rows_Next.l0 k a0) = some r := h
  clear h
  have H' := Aside0.mk H
  clear H
  go_enter Try.func16, Try.ntmps16
  go_wp2
  go_loopg [0] k (fun kq v0 w' => ∃ (x0_1 : ByteArray), v0 = .string x0_1 ∧ Aside0 (rows_Next.l0 kq x0_1 = some r) ∧ Aside0 (kq ≤ k) ∧ Aside0 (Below w.heap.size w w'))
  case atStart => exact ⟨(a0), (by first | rfl | (simp; done) | (simp [*]; done)), H', ⟨Nat.le_refl _⟩, ⟨by repeat (first | (with_reducible first | exact HB.out | apply below_alloc | apply pw_below_drewN | apply below_drew1) | exact HB.out)⟩⟩
  case round =>
    clear H'
    try clear c1
    obtain ⟨x0_1, rfl, HA, HK1, HB⟩ := hrel
    cases gk with
    | zero => exact absurd HA.out (by simp [rows_Next.l0])
    | succ k1 =>
      have H := HA.out
      clear HA
      simp only [rows_Next.l0] at H
      replace H := Option.bind_eq_some_iff.mp H
      obtain ⟨t101, A20, H⟩ := H
      replace H : (if t101 = true then (if 0 ≤ (wrap64 ((x0_1.size : Int) - 1)) then (if (wrap64 ((x0_1.size : Int) - 1)) ≤ (x0_1.size : Int) then (rows_Next.l0 k1 (x0_1.extract 0 ((wrap64 ((x0_1.size : Int) - 1)) : Int).toNat)) else (none)) else (none)) else (if x0_1.toList = ([] : List UInt8) then (some (⟨#[]⟩ : ByteArray)) else (if 0 ≤ (wrap64 ((x0_1.size : Int) - 1)) then (if (wrap64 ((x0_1.size : Int) - 1)) ≤ (x0_1.size : Int) then (if (wrap64 ((x0_1.size : Int) - 1)) < (x0_1.size : Int) then ((some (([((bt x0_1 (wrap64 ((x0_1.size : Int) - 1))) + 1) % 256] : List Int) : List Int)).bind fun y102 => (if (x0_1.extract 0 ((wrap64 ((x0_1.size : Int) - 1)) : Int).toNat).size + (strOfNums y102).size ≤ 9223372036854775807 then (some ((x0_1.extract 0 ((wrap64 ((x0_1.size : Int) - 1)) : Int).toNat) ++ (strOfNums y102))) else (none))) else (none)) else (none)) else (none)))) = some r := H
      have A2 := Aside0.mk A20
      clear A20
      by_cases c3 : t101 = true
      · subst c3
        have H1 : (if 0 ≤ (wrap64 ((x0_1.size : Int) - 1)) then (if (wrap64 ((x0_1.size : Int) - 1)) ≤ (x0_1.size : Int) then (rows_Next.l0 k1 (x0_1.extract 0 ((wrap64 ((x0_1.size : Int) - 1)) : Int).toNat)) else (none)) else (none)) = some r := by rw [if_pos rfl] at H; exact H
        clear H
        have H := H1
        clear H1
        obtain ⟨ji4, hji4⟩ : ∃ j_ : Int, (wrap64 ((x0_1.size : Int) - 1)) = j_ := ⟨_, rfl⟩
        replace H : (if 0 ≤ (ji4) then (if (ji4) ≤ (x0_1.size : Int) then (rows_Next.l0 k1 (x0_1.extract 0 ((ji4) : Int).toNat)) else (none)) else (none)) = some r := by first | (rw [hji4] at H; exact H) | (simp only [hji4] at H ⊢; exact H)
        (try rw [hji4] at A2)
        have hji4w : (IntKind.i64.wrap ((x0_1.size : Int) - 1)) = ji4 := (i64_w _).trans hji4
        by_cases c5 : 0 ≤ (ji4)
        · rw [if_pos c5] at H
          have c5b0 := eq_true c5
          have c5b1 : decide (0 ≤ (ji4)) = true := decide_eq_true c5
          clear c5
          by_cases c6 : (ji4) ≤ (x0_1.size : Int)
          · rw [if_pos c6] at H
            have c6b0 := eq_true c6
            have c6b1 : decide ((ji4) ≤ (x0_1.size : Int)) = true := decide_eq_true c6
            clear c6
            have H' := Aside0.mk H
            clear H
            go_wp2_with (first | ((with_reducible refine gate_callee (f := 43) rfl ?_); refine goesL_ (some 5) rfl rfl Try.func43 (by kernel_rfl) rfl #[.string x0_1, .string (⟨#[255]⟩ : ByteArray)] rfl (by (try simp only [List.map_toArray, List.map_cons, List.map_nil]); first | done | rfl | (simp only [List.length_drop, List.length_take]; rfl)) ?_; (with_reducible refine (strings_HasSuffix.calls x0_1 (⟨#[255]⟩ : ByteArray) true _ A2.out).mono ?_); rintro e w' ⟨rfl, ⟨nd, rfl⟩⟩; refine ⟨_, rfl, ?_⟩))
            go_roundg k1
            case measure => have := HK1.out; omega
            case rel => exact ⟨(x0_1.extract 0 ((ji4) : Int).toNat), (by first | rfl | (simp; done) | (simp only [← hji4] <;> (first | rfl | simp)) | (simp [*]; done)), H', ⟨by have := HK1.out; omega⟩, ⟨by repeat (first | (with_reducible first | exact HB.out | apply below_alloc | apply pw_below_drewN | apply below_drew1) | exact HB.out)⟩⟩
          · rw [if_neg c6] at H
            exact absurd H (by simp)
        · rw [if_neg c5] at H
          exact absurd H (by simp)
      · replace c3 := Bool.eq_false_iff.mpr c3
        subst c3
        have H1 : (if x0_1.toList = ([] : List UInt8) then (some (⟨#[]⟩ : ByteArray)) else (if 0 ≤ (wrap64 ((x0_1.size : Int) - 1)) then (if (wrap64 ((x0_1.size : Int) - 1)) ≤ (x0_1.size : Int) then (if (wrap64 ((x0_1.size : Int) - 1)) < (x0_1.size : Int) then ((some (([((bt x0_1 (wrap64 ((x0_1.size : Int) - 1))) + 1) % 256] : List Int) : List Int)).bind fun y102 => (if (x0_1.extract 0 ((wrap64 ((x0_1.size : Int) - 1)) : Int).toNat).size + (strOfNums y102).size ≤ 9223372036854775807 then (some ((x0_1.extract 0 ((wrap64 ((x0_1.size : Int) - 1)) : Int).toNat) ++ (strOfNums y102))) else (none))) else (none)) else (none)) else (none))) = some r := by rw [if_neg (show ¬ (false = true) by decide)] at H; exact H
        clear H
        have H := H1
        clear H1
        by_cases c7 : x0_1.toList = ([] : List UInt8)
        · rw [if_pos c7] at H
          have c7b0 : (x0_1.toList == ([] : List UInt8)) = true := beq_iff_eq.mpr c7
          have c7b1 : (x0_1.toList != ([] : List UInt8)) = false := bne_eq_false_iff_eq.mpr c7
          clear c7
          obtain rfl := Option.some.inj H
          go_wp2_with (first | ((with_reducible refine gate_callee (f := 43) rfl ?_); refine goesL_ (some 5) rfl rfl Try.func43 (by kernel_rfl) rfl #[.string x0_1, .string (⟨#[255]⟩ : ByteArray)] rfl (by (try simp only [List.map_toArray, List.map_cons, List.map_nil]); first | done | rfl | (simp only [List.length_drop, List.length_take]; rfl)) ?_; (with_reducible refine (strings_HasSuffix.calls x0_1 (⟨#[255]⟩ : ByteArray) false _ A2.out).mono ?_); rintro e w' ⟨rfl, ⟨nd, rfl⟩⟩; refine ⟨_, rfl, ?_⟩))
          go_ret
          exact ⟨by first | rfl | (simp [errW_none, errW_some] <;> rfl) | (simp [*, errW_none, errW_some] <;> rfl), by repeat (first | (with_reducible first | exact HB.out | apply below_alloc | apply pw_below_drewN | apply below_drew1) | exact HB.out)⟩
        · rw [if_neg c7] at H
          have c7b0 : (x0_1.toList == ([] : List UInt8)) = false := beq_eq_false_iff_ne.mpr c7
          have c7b1 : (x0_1.toList != ([] : List UInt8)) = true := bne_iff_ne.mpr c7
          obtain ⟨ji8, hji8⟩ : ∃ j_ : Int, (wrap64 ((x0_1.size : Int) - 1)) = j_ := ⟨_, rfl⟩
          replace H : (if 0 ≤ (ji8) then (if (ji8) ≤ (x0_1.size : Int) then (if (ji8) < (x0_1.size : Int) then ((some (([((bt x0_1 (ji8)) + 1) % 256] : List Int) : List Int)).bind fun y102 => (if (x0_1.extract 0 ((ji8) : Int).toNat).size + (strOfNums y102).size ≤ 9223372036854775807 then (some ((x0_1.extract 0 ((ji8) : Int).toNat) ++ (strOfNums y102))) else (none))) else (none)) else (none)) else (none)) = some r := by first | (rw [hji8] at H; exact H) | (simp only [hji8] at H ⊢; exact H)
          (try rw [hji8] at A2)
          have hji8w : (IntKind.i64.wrap ((x0_1.size : Int) - 1)) = ji8 := (i64_w _).trans hji8
          by_cases c9 : 0 ≤ (ji8)
          · rw [if_pos c9] at H
            have c9b0 := eq_true c9
            have c9b1 : decide (0 ≤ (ji8)) = true := decide_eq_true c9
            clear c9
            by_cases c10 : (ji8) ≤ (x0_1.size : Int)
            · rw [if_pos c10] at H
              have c10b0 := eq_true c10
              have c10b1 : decide ((ji8) ≤ (x0_1.size : Int)) = true := decide_eq_true c10
              clear c10
              by_cases c11 : (ji8) < (x0_1.size : Int)
              · rw [if_pos c11] at H
                have c11b0 : decide ((ji8) < (x0_1.size : Int)) = true := decide_eq_true c11
                clear c11
                obtain ⟨y102, hy102⟩ : ∃ y_ : List Int, y_ = (([((bt x0_1 (ji8)) + 1) % 256] : List Int)) := ⟨_, rfl⟩
                replace H : (if (x0_1.extract 0 ((ji8) : Int).toNat).size + (strOfNums y102).size ≤ 9223372036854775807 then (some ((x0_1.extract 0 ((ji8) : Int).toNat) ++ (strOfNums y102))) else (none)) = some r := by first | (rw [hy102]; with_reducible exact H) | (have H2_ := (Option.bind_some _ _).symm.trans H; rw [hy102]; with_reducible exact H2_) | (have H2_ := (Option.bind_some _ _).symm.trans H; with_reducible exact H2_) | with_reducible exact H | (rw [hy102]; exact H) | exact H
                have Ny102 := Aside0.mk hy102
                clear hy102
                by_cases c13 : (x0_1.extract 0 ((ji8) : Int).toNat).size + (strOfNums y102).size ≤ 9223372036854775807
                · rw [if_pos c13] at H
                  have c13b0 := eq_true c13
                  have c13b1 : decide ((x0_1.extract 0 ((ji8) : Int).toNat).size + (strOfNums y102).size ≤ 9223372036854775807) = true := decide_eq_true c13
                  try have c13b2 : (9223372036854775807 < (x0_1.extract 0 ((ji8) : Int).toNat).size + (strOfNums y102).size) = False := eq_false (Nat.not_lt.2 c13)
                  try have c13b3 : (9223372036854775807 < ((ji8) : Int).toNat + (strOfNums y102).size) = False := by (have q_ : (ji8) ≤ (x0_1.size : Int) := of_decide_eq_true (by assumption)); (have p_ : 0 ≤ (ji8) := of_decide_eq_true (by assumption)); (have s_ : (x0_1.extract 0 ((ji8) : Int).toNat).size = ((ji8) : Int).toNat := by (rw [ByteArray.size_extract]; omega)); (have h_ := c13); (rw [s_] at h_); exact eq_false (Nat.not_lt.2 h_)
                  obtain rfl := Option.some.inj H
                  try go_wp2_with (first | ((with_reducible refine gate_callee (f := 43) rfl ?_); refine goesL_ (some 5) rfl rfl Try.func43 (by kernel_rfl) rfl #[.string x0_1, .string (⟨#[255]⟩ : ByteArray)] rfl (by (try simp only [List.map_toArray, List.map_cons, List.map_nil]); first | done | rfl | (simp only [List.length_drop, List.length_take]; rfl)) ?_; (with_reducible refine (strings_HasSuffix.calls x0_1 (⟨#[255]⟩ : ByteArray) false _ A2.out).mono ?_); rintro e w' ⟨rfl, ⟨nd, rfl⟩⟩; refine ⟨_, rfl, ?_⟩))
                  (try (rw [drewN_self wr]; generalize hq_ : World.drewN wr _ = wr; have n0_ : Aside0 (Below w.heap.size w wr) := ⟨by rw [← hq_]; exact (by repeat (first | (with_reducible first | exact HB.out | apply below_alloc | apply pw_below_drewN | apply below_drew1) | exact HB.out))⟩; clear HB hq_; have HB := n0_; clear n0_))
                  have n0_ := Aside0.mk (below_drew1 HB.out)
                  clear HB
                  have HB := n0_
                  clear n0_
                  have p12 : 0 ≤ ((ji8) : Int) := of_decide_eq_true (by first | (with_reducible assumption) | assumption)
                  have q12 : (ji8) < (x0_1.size : Int) := of_decide_eq_true (by first | (with_reducible assumption) | assumption)
                  have hx12 := bt_at x0_1 (ji8)
                  replace p12 := eq_true p12
                  replace q12 := eq_true q12
                  refine start_ (n := 11) (S := fun w' => True) (ds := []) #[false, false, false, false, false, false, false, false, false, false, false] (by kernel_rfl) rfl rfl trivial (fun hHeld => ?_); refine with_tabW rows_Next.tab6 rows_Next.bits6 (fun HT_ HW_ => ?_)
                  generalize wr.drew = w14 at HB hHeld ⊢
                  refine pure_ (i := 0) (N := some 16) (v := ?_) (a' := ?_) #[true, false, false, false, false, false, false, false, false, false, false] rfl rfl (any_of HT_.out (by kernel_rfl)) (fun _ _ _ h => h) (Or.inl ⟨by rfl, ?_⟩) ?_ ?_
                  rotate_left
                  · intro w'
                    go_simp
                    with_reducible rfl
                  rotate_left
                  · simp only [Act.put, List.setIfInBounds_toArray, List.set_cons_zero, List.set_cons_succ, i64_w, i32_w]
                    rfl
                  refine pure_ (i := 1) (N := some 17) (v := ?_) (a' := ?_) #[true, true, false, false, false, false, false, false, false, false, false] rfl rfl (any_of HT_.out (by kernel_rfl)) (fun _ _ _ h => h) (Or.inl ⟨by rfl, ?_⟩) ?_ ?_
                  rotate_left
                  · intro w'
                    go_simp
                    with_reducible rfl
                  rotate_left
                  · simp only [Act.put, List.setIfInBounds_toArray, List.set_cons_zero, List.set_cons_succ, i64_w, i32_w]
                    rfl
                  refine pure_ (i := 2) (N := some 18) (v := ?_) (a' := ?_) #[true, true, true, false, false, false, false, false, false, false, false] rfl rfl (any_of HT_.out (by kernel_rfl)) (fun _ _ _ h => h) (Or.inl ⟨by rfl, ?_⟩) ?_ ?_
                  rotate_left
                  · intro w'
                    go_simp
                    with_reducible rfl
                  rotate_left
                  · simp only [Act.put, List.setIfInBounds_toArray, List.set_cons_zero, List.set_cons_succ, i64_w, i32_w]
                    rfl
                  refine pure_ (i := 3) (N := some 19) (v := ?_) (a' := ?_) #[true, true, true, true, false, false, false, false, false, false, false] rfl rfl (any_of HT_.out (by kernel_rfl)) (fun _ _ _ h => h) (Or.inl ⟨by rfl, ?_⟩) ?_ ?_
                  rotate_left
                  · intro w'
                    go_simp
                    with_reducible rfl
                  rotate_left
                  · simp only [Act.put, List.setIfInBounds_toArray, List.set_cons_zero, List.set_cons_succ, i64_w, i32_w]
                    rfl
                  refine pure_ (i := 4) (N := some 20) (v := ?_) (a' := ?_) #[true, true, true, true, true, false, false, false, false, false, false] rfl rfl (any_of HT_.out (by kernel_rfl)) (fun _ _ _ h => h) (Or.inl ⟨by rfl, ?_⟩) ?_ ?_
                  rotate_left
                  · intro w'
                    go_simp
                    with_reducible rfl
                  rotate_left
                  · simp only [Act.put, List.setIfInBounds_toArray, List.set_cons_zero, List.set_cons_succ, i64_w, i32_w]
                    rfl
                  refine take_ (i := 5) (N := some 21) (v := ?_) (a' := ?_) #[true, true, true, true, true, true, false, false, false, false, false] rfl rfl (take_ofW HT_.out HW_.out (by kernel_rfl)) (fun _ _ _ h => h) (Or.inl ⟨by rfl, ?_⟩) hHeld ?_ ?_
                  rotate_left
                  · intro w' _
                    go_simp
                    with_reducible rfl
                  rotate_left
                  · simp only [Act.put, List.setIfInBounds_toArray, List.set_cons_zero, List.set_cons_succ, i64_w, i32_w]
                    rfl
                  refine pure_ (i := 6) (N := some 22) (v := ?_) (a' := ?_) #[true, true, true, true, true, true, true, false, false, false, false] rfl rfl (any_of HT_.out (by kernel_rfl)) (fun _ _ _ h => h) (Or.inl ⟨by rfl, ?_⟩) ?_ ?_
                  rotate_left
                  · intro w'
                    go_simp
                    with_reducible rfl
                  rotate_left
                  · simp only [Act.put, List.setIfInBounds_toArray, List.set_cons_zero, List.set_cons_succ, i64_w, i32_w]
                    rfl
                  refine one_ (i := 7) (N := some 23) #[true, true, true, true, true, true, true, true, false, false, false] rfl rfl (one_of HT_.out (by kernel_rfl)) (by decide) (fun K hK => ?_)
                  refine Kd.R_lit_step (Kd.int .u8) _ 5 ?hg (N := 23) ?hd (xs := ([((bt x0_1 (ji8)) + 1) % 256] : List Int)) (inner := [.int .u8 (((bt x0_1 (ji8)) + 1) % 256)]) (ok := fun _ => True) (okp := fun _ => True) ?hr ?hp (fun _ hk => hk) trivial (Below.refl _ _) (Nat.le_refl _) (by simp) ?_; (case hd => rfl); (case hg => rfl); (case hr => first | (go_simp; done) | (go_simp; rfl)); (case hp => exact (Reps.one (show Kd.M (Kd.int .u8) _ _ _ (((bt x0_1 (ji8)) + 1) % 256) [.int .u8 (((bt x0_1 (ji8)) + 1) % 256)] from rfl) (Reps.none _ _)))
                  intro v103 w15 ho16 hb hg_ hnew_
                  clear hg_ hnew_
                  (first | rw [← Ny102.out] at ho16 | (simp only [Int.reduceToNat] at ho16; rw [← Ny102.out] at ho16))
                  have n0_ := Aside0.mk (Kd.R_lower ho16 (below_size (by repeat (first | (with_reducible first | exact HB.out | apply below_alloc | apply pw_below_drewN | apply below_drew1) | exact HB.out))))
                  have n1_ := Aside0.mk (below_step (by repeat (first | (with_reducible first | exact HB.out | apply below_alloc | apply pw_below_drewN | apply below_drew1) | exact HB.out)) hb)
                  clear HB
                  have HO104 := n0_
                  have HB := n1_
                  clear n0_ n1_
                  clear hb ho16
                  refine hK.out _ _ trivial (fun hHeld => ?_)
                  clear hK K
                  refine norm_ (a' := ?_) ?_ ?_
                  rotate_left
                  · show Act.put _ (some 23) _ = _
                    simp only [Act.put, List.setIfInBounds_toArray, List.set_cons_zero, List.set_cons_succ, i64_w, i32_w]
                    rfl
                  refine one_ (i := 8) (N := some 24) #[true, true, true, true, true, true, true, true, true, false, false] rfl rfl (one_of HT_.out (by kernel_rfl)) (by decide) (fun K hK => ?_)
                  have hcv17 := own_string (P := Try.prog) Try.underlying36 Try.underlying5 Try.underlying9 (Kd.own_of_R HO104.out)
                  refine value_ (w1 := ?_) (v := ?_) (by rfl) rfl ?_ ?_
                  rotate_left 2
                  · go_simp
                    constructor
                    · rfl
                    · rfl
                  clear hcv17
                  refine hK.out _ _ trivial (fun hHeld => ?_)
                  clear hK K
                  refine norm_ (a' := ?_) ?_ ?_
                  rotate_left
                  · show Act.put _ (some 24) _ = _
                    simp only [Act.put, List.setIfInBounds_toArray, List.set_cons_zero, List.set_cons_succ, i64_w, i32_w]
                    rfl
                  refine pure_ (i := 9) (N := some 25) (v := ?_) (a' := ?_) #[true, true, true, true, true, true, true, true, true, true, false] rfl rfl (any_of HT_.out (by kernel_rfl)) (fun _ _ _ h => h) (Or.inl ⟨by rfl, ?_⟩) ?_ ?_
                  rotate_left
                  · intro w'
                    go_simp
                    with_reducible rfl
                  rotate_left
                  · simp only [Act.put, List.setIfInBounds_toArray, List.set_cons_zero, List.set_cons_succ, i64_w, i32_w]
                    rfl
                  refine pure_ (i := 10) (N := some 2) (v := ?_) (a' := ?_) #[true, true, true, true, true, true, true, true, true, true, true] rfl rfl (any_of HT_.out (by kernel_rfl)) (fun _ _ _ h => h) (Or.inl ⟨by rfl, ?_⟩) ?_ ?_
                  rotate_left
                  · intro w'
                    go_simp
                    with_reducible rfl
                  rotate_left
                  · simp only [Act.put, List.setIfInBounds_toArray, List.set_cons_zero, List.set_cons_succ, i64_w, i32_w]
                    rfl
                  refine done_ (done_of HT_.out (by kernel_rfl)) ?_
                  try go_wp2
                  go_ret
                  exact ⟨by first | rfl | (simp [errW_none, errW_some] <;> rfl) | (simp only [← hji8]; first | rfl | (simp [errW_none, errW_some] <;> rfl)) | (simp [*, errW_none, errW_some] <;> rfl), by repeat (first | (with_reducible first | exact HB.out | apply below_alloc | apply pw_below_drewN | apply below_drew1) | exact HB.out)⟩
                · rw [if_neg c13] at H
                  exact absurd H (by simp)
              · rw [if_neg c11] at H
                exact absurd H (by simp)
            · rw [if_neg c10] at H
              exact absurd H (by simp)
          · rw [if_neg c9] at H
            exact absurd H (by simp)

end Go.Proofs.Ytnjidfgjldkkcaa.Q
/- bagnallref.RowsNext, walked: for every text of at most 2^47 bytes; and what it answers. -/
namespace Go.Proofs.Ytnjidfgjldkkcaa.Q
open Go.RowKit Go.Proofs.YtnjidfgjldkkcaaW.PrintWords Go.Proofs.YtnjidfgjldkkcaaW.PrintLast Go.Proofs.YtnjidfgjldkkcaaW.PrintMore
/-- How many bytes are left behind the last one that is not 255. -/
def trimLen (s : ByteArray) : Nat → Nat
  | 0 => 0
  | n + 1 => if bt s (n : Int) = 255 then trimLen s n else n + 1
/-- The first n bytes, the last of them one more. -/
def raised (s : ByteArray) : Nat → List Int
  | 0 => []
  | n + 1 => ((bytesOf s).take (n + 1)).set n ((bt s (n : Int) + 1) % 256)
def bagnallref_RowsNext.v (s : ByteArray) : ByteArray := strOfNums (raised s (trimLen s s.size))

theorem cell_bytes (w : World) (s : ByteArray) (j : Nat) (hj : j < s.size) : (Lib.bytesWorld w 5 s).cell? ⟨w.heap.size, j, none⟩ = some (.int .u8 (bt s (j : Int))) := by
  rw [Lib.bytesWorld_cell w 5 s j hj, ← rd_bytesOf]
  have h' : j < s.data.toList.length := by rw [data_length]; exact hj
  simp [rd, bytesOf, List.getD_eq_getElem?_getD, List.getElem?_eq_getElem h']
theorem frozen_bytes (w : World) (s : ByteArray) (j : Nat) (hj : j < s.size) : (Lib.bytesWorld w 5 s).frozen? ⟨w.heap.size, j, none⟩ = false := by
  have h := Lib.bytesWorld_at_new w 5 s
  have hz : s.size ≤ (Lib.bytesCells w 5 s).size := by
    unfold Lib.bytesCells
    rw [Array.size_append, Array.size_map]
    exact Nat.le_add_right _ _
  unfold World.frozen?
  simp only [h]
  simp
  omega
theorem raised_reads {W : World} {g n : Nat} (s : ByteArray) (hn : n + 1 ≤ s.size) (hs : s.size ≤ 140737488351232) (hc : ∀ j : Nat, j < s.size → W.cell? ⟨g, j, none⟩ = some (.int .u8 (bt s (j : Int)))) :
    ReadsInt (W.setCell ⟨g, n, none⟩ (.int .u8 ((bt s (n : Int) + 1) % 256))) .u8 (some ⟨g, 0, none⟩) (n + 1) (raised s (n + 1)) := by
  have hl : (bytesOf s).length = s.size := bytesOf_length s
  refine ⟨by simp [raised]; omega, by omega, fun _ => ⟨_, rfl, fun j hj => ?_⟩⟩
  rw [add_plain]
  have hj' : j < (bytesOf s).length := by omega
  by_cases e : j = n
  · subst e
    rw [World.cell?_setCell_same (h := hc j (by omega))]
    congr 2
    have hlt : j < (((bytesOf s).take (j + 1)).set j ((bt s (j : Int) + 1) % 256)).length := by simp; omega
    unfold raised
    rw [List.getD_eq_getElem?_getD, List.getElem?_eq_getElem hlt, List.getElem_set_self]
    rfl
  · rw [World.cell?_setCell_other (h := fun (h : (⟨g, n, none⟩ : Addr) = ⟨g, j, none⟩) => e (by injection h with _ h2 _; exact h2.symm)), hc j (by omega)]
    congr 2
    rw [← rd_bytesOf]
    unfold rd raised
    rw [List.getD_eq_getElem?_getD, List.getD_eq_getElem?_getD, List.getElem?_set_ne (Ne.symm e), List.getElem?_take, if_pos (by omega), Int.toNat_natCast]
set_option maxRecDepth 100000 in
set_option maxHeartbeats 1600000 in
theorem RowsNext_walk (s : ByteArray) (w : World) (hs : s.size ≤ 140737488351232) :
    Calls Try.prog 17 #[.string s] w fun e w' => e = .returned (.string (bagnallref_RowsNext.v s)) ∧ Below w.heap.size w w' := by
  have kc := fun (w : World) => Lib.run_convert_string_bytes (P := Try.prog) w 9 36 5 s Try.underlying9 Try.underlying36 Try.underlying5
  go_enter Try.func17, Try.ntmps17
  go_wp2
  have hb := bytes_below (Below.refl w.heap.size w) (Nat.le_refl _) 5 s
  have hc : Hid (∀ j : Nat, j < s.size → (Lib.bytesWorld w 5 s).cell? ⟨w.heap.size, j, none⟩ = some (.int .u8 (bt s (j : Int)))) := cell_bytes w s
  have hz : Hid (∀ j : Nat, j < s.size → (Lib.bytesWorld w 5 s).frozen? ⟨w.heap.size, j, none⟩ = false) := frozen_bytes w s
  have hC : s.size ≤ grownCap w s.size 0 5 := grownCap_ge w s.size 0 5
  generalize Lib.bytesWorld w 5 s = W1 at *
  clear kc
  generalize grownCap w s.size 0 5 = C at *
  go_loop [3] (fun v => ∃ n : Nat, n ≤ s.size ∧ Aside0 (trimLen s n = trimLen s s.size) ∧ v = .slice (some ⟨w.heap.size, 0, none⟩) n C) (fun v => match v with | .slice _ n _ => n | _ => 0)
  case atStart => exact ⟨s.size, Nat.le_refl _, ⟨rfl⟩, rfl⟩
  case round =>
    obtain ⟨n, hn, ht, rfl⟩ := hrel
    cases n with
    | zero =>
      have ks := fun (W : World) => string_of_reads (P := Try.prog) (w := W) (A := some ⟨w.heap.size, 0, none⟩) (n := 0) (c := C) (xs := []) Try.underlying36 Try.underlying5 Try.underlying9 ⟨rfl, by simp, fun h => absurd h (by simp)⟩
      go_wp2
      go_ret
      refine ⟨?_, hb⟩
      unfold bagnallref_RowsNext.v
      rw [← ht.out]
      rfl
    | succ n =>
      have hcn := hc.out n (by omega)
      have hzn := hz.out n (by omega)
      have hnC : n ≤ C := by omega
      by_cases h255 : bt s (n : Int) = 255
      · have hbt : (bt s (n : Int) == 255) = true := by simpa using h255
        have HT : Aside0 (trimLen s n = trimLen s s.size) := ⟨by rw [← ht.out, trimLen, if_pos h255]⟩
        go_wp2
        go_round
        case rel => exact ⟨n, by omega, HT, rfl⟩
        case measure => show n < n + 1; omega
      · have hbt : (bt s (n : Int) == 255) = false := by simpa using h255
        have ks := string_of_reads (P := Try.prog) (c := C) Try.underlying36 Try.underlying5 Try.underlying9 (raised_reads s hn hs hc.out)
        have HT : Aside0 (trimLen s s.size = n + 1) := ⟨by rw [← ht.out, trimLen, if_neg h255]⟩
        go_wp2
        go_ret
        refine ⟨?_, hb.setCell (Nat.le_refl _) _⟩
        unfold bagnallref_RowsNext.v
        rw [HT.out]
        rfl

def bagnallref_RowsNext.f (s : ByteArray) : Option ByteArray := if s.size ≤ 140737488351232 then some (bagnallref_RowsNext.v s) else none
theorem bagnallref_RowsNext.calls (a0 : ByteArray) (r : ByteArray) (w : World) (h : bagnallref_RowsNext.f a0 = some r) :
    Calls Try.prog 17 #[.string a0] w fun e w' => e = .returned (.string r) ∧ Below w.heap.size w w' := by
  unfold bagnallref_RowsNext.f at h
  split at h
  · rename_i hs
    obtain rfl := Option.some.inj h
    exact RowsNext_walk a0 w hs
  · cases h
end Go.Proofs.Ytnjidfgjldkkcaa.Q
-- Written for this seat by a program of its session (xp.py over the kit's printer).
namespace Go.Proofs.Ytnjidfgjldkkcaa.Q
open Go.RowKit Go.Proofs.YtnjidfgjldkkcaaW.PrintWords Go.Proofs.YtnjidfgjldkkcaaW.PrintLast Go.Proofs.YtnjidfgjldkkcaaW.PrintMore
attribute [local go_sem] max2_int min2_int max_two min_two max_three min_three max_four min_four xq_geq xq_leq xq_gtr   -- for this text's walks alone
set_option linter.unusedVariables false
set_option linter.unusedSimpArgs false

/-! ### bagnalllaw_RowsNexts: function 3 -/
def bagnalllaw_RowsNexts.f (k : Nat) (a0 : ByteArray) : Option (Bool) := (rows_Next.f k a0).bind fun t101 => ((bagnallref_RowsNext.f a0).bind fun t102 => (some (t101.toList == t102.toList)))
theorem bagnalllaw_RowsNexts.mono : ∀ a0 k, LeO (bagnalllaw_RowsNexts.f k a0) (bagnalllaw_RowsNexts.f (k + 1) a0) := by
  intro a0 k
  unfold bagnalllaw_RowsNexts.f
  repeat' first
      | (with_reducible exact rows_Next.mono _ _)
      | (with_reducible exact LeO.refl _)
      | (with_reducible exact LeO.none _)
      | (with_reducible refine LeO.ite ?_ ?_)
      | (with_reducible refine LeO.bind ?_ (fun _ => ?_))
      | exact rows_Next.mono _ _
      | exact LeO.none _
      | refine LeO.ite ?_ ?_
      | refine LeO.bind ?_ (fun _ => ?_)
set_option maxHeartbeats 8000000 in
set_option maxRecDepth 100000 in
theorem bagnalllaw_RowsNexts.calls (k : Nat) (a0 : ByteArray) (r : Bool) (w : World) (h : bagnalllaw_RowsNexts.f k a0 = some r) :
    Calls Try.prog 3 #[.string a0] w fun e w' => e = .returned (.bool r) ∧ Below w.heap.size w w' := by
  have HB := Aside0.mk (Below.refl w.heap.size w)
  have H : ((rows_Next.f k a0).bind fun t101 => ((bagnallref_RowsNext.f a0).bind fun t102 => (some (t101.toList == t102.toList)))) = some r := h
  clear h
  replace H := Option.bind_eq_some_iff.mp H
  obtain ⟨t101, A20, H⟩ := H
  replace H : ((bagnallref_RowsNext.f a0).bind fun t102 => (some (t101.toList == t102.toList))) = some r := H
  have A2 := Aside0.mk A20
  clear A20
  replace H := Option.bind_eq_some_iff.mp H
  obtain ⟨t102, A30, H⟩ := H
  replace H : (some (t101.toList == t102.toList)) = some r := H
  have A3 := Aside0.mk A30
  clear A30
  obtain rfl := Option.some.inj H
  go_enter Try.func3, Try.ntmps3
  go_wp2_with (first | ((with_reducible refine gate_callee (f := 16) rfl ?_); refine goesL_ (some 4) rfl rfl Try.func16 (by kernel_rfl) rfl #[.string a0] rfl (by (try simp only [List.map_toArray, List.map_cons, List.map_nil]); first | done | rfl | (simp only [List.length_drop, List.length_take]; rfl)) ?_; (with_reducible refine (rows_Next.calls k a0 t101 _ A2.out).mono ?_); rintro e w4 ⟨rfl, hb⟩; refine ⟨_, rfl, ?_⟩; have n0_ := Aside0.mk (below_step (by repeat (first | (with_reducible first | exact HB.out | apply below_alloc | apply pw_below_drewN | apply below_drew1) | exact HB.out)) hb); clear HB; have HB := n0_; clear n0_; (try clear hb); (try clear hb2); (try clear hk); (try clear hi)) | ((with_reducible refine gate_callee (f := 17) rfl ?_); refine goesL_ (some 6) rfl rfl Try.func17 (by kernel_rfl) rfl #[.string a0] rfl (by (try simp only [List.map_toArray, List.map_cons, List.map_nil]); first | done | rfl | (simp only [List.length_drop, List.length_take]; rfl)) ?_; (with_reducible refine (bagnallref_RowsNext.calls a0 t102 _ A3.out).mono ?_); rintro e w5 ⟨rfl, hb⟩; refine ⟨_, rfl, ?_⟩; have n0_ := Aside0.mk (below_step (by repeat (first | (with_reducible first | exact HB.out | apply below_alloc | apply pw_below_drewN | apply below_drew1) | exact HB.out)) hb); clear HB; have HB := n0_; clear n0_; (try clear hb); (try clear hb2); (try clear hk); (try clear hi)))
  go_ret
  exact ⟨by first | rfl | (simp [errW_none, errW_some] <;> rfl) | (simp [*, errW_none, errW_some] <;> rfl), by repeat (first | (with_reducible first | exact HB.out | apply below_alloc | apply pw_below_drewN | apply below_drew1) | exact HB.out)⟩

end Go.Proofs.Ytnjidfgjldkkcaa.Q
/- rows.Next answers as the reference does, for every text; no condition. -/
namespace Go.Proofs.Ytnjidfgjldkkcaa.Pure
open Go.RowKit Go.Proofs.Ytnjidfgjldkkcaa.Q Go.Proofs.YtnjidfgjldkkcaaW.PrintWords Go.Proofs.Ytnjidfgjldkkcaa.Plain

theorem head_bytes (s : ByteArray) {n : Nat} : bytesOf (s.extract 0 n) = (bytesOf s).take n := by rw [bytes_extract, List.drop_zero]
theorem head_size (s : ByteArray) {n : Nat} (hn : n ≤ s.size) : (s.extract 0 n).size = n := by
  rw [← size_bytes, head_bytes, List.length_take, size_bytes]; omega
theorem head_bt (s : ByteArray) {n i : Nat} (hn : n ≤ s.size) (hi : i < n) : bt (s.extract 0 n) (i : Int) = bt s (i : Int) := by
  rw [bt_get (by rw [head_size s hn]; exact hi), bt_get (by omega)]
  simp only [head_bytes, List.getElem_take]
theorem head_head (s : ByteArray) {n m : Nat} (h : m ≤ n) : (s.extract 0 n).extract 0 m = s.extract 0 m := by
  apply str_inj
  rw [head_bytes, head_bytes, head_bytes, List.take_take, Nat.min_eq_left h]
theorem head_whole (s : ByteArray) : s.extract 0 s.size = s := by
  apply str_inj
  rw [head_bytes, List.take_of_length_le (by rw [size_bytes]; exact Nat.le_refl _)]

theorem suffix_zero (y : ByteArray) (h : y.size = 0) : strings_HasSuffix.f y (⟨#[255]⟩ : ByteArray) = some false := by
  unfold strings_HasSuffix.f stringslite_HasSuffix.f
  rw [if_neg (by have : (⟨#[255]⟩ : ByteArray).size = 1 := rfl; omega)]
  rfl
theorem suffix_succ (y : ByteArray) (m : Nat) (h : y.size = m + 1) (hm : m < 9223372036854775807) : strings_HasSuffix.f y (⟨#[255]⟩ : ByteArray) = some (decide (bt y (m : Int) = 255)) := by
  have e1 : (⟨#[255]⟩ : ByteArray).size = 1 := rfl
  have e2 : wrap64 ((y.size : Int) - ((⟨#[255]⟩ : ByteArray).size : Int)) = (m : Int) := by rw [e1, wrap_in (by omega) (by omega)]; omega
  unfold strings_HasSuffix.f stringslite_HasSuffix.f
  rw [if_pos (by omega), e2, if_pos (by omega), if_pos (by omega), Option.bind_some, Int.toNat_natCast]
  congr 1
  rw [Bool.eq_iff_iff, beq_iff_eq, decide_eq_true_eq, toList_inj]
  have e3 : bytesOf (y.extract m y.size) = [bt y (m : Int)] := by
    rw [bytes_extract, List.take_of_length_le (by rw [size_bytes]; exact Nat.le_refl _), bt_get (by omega : m < y.size), List.drop_eq_getElem_cons (by rw [size_bytes]; omega), List.drop_of_length_le (by rw [size_bytes]; omega)]
  have e4 : bytesOf (⟨#[255]⟩ : ByteArray) = [255] := rfl
  constructor
  · intro h
    have := e3.symm.trans ((congrArg bytesOf h).trans e4)
    simpa using this
  · intro h
    apply str_inj
    rw [e3, e4, h]

theorem next_ev (s : ByteArray) (hs : s.size ≤ 140737488351232) : ∀ n, n ≤ s.size → Ev (fun k => rows_Next.l0 k (s.extract 0 n)) (strOfNums (Q.raised s (trimLen s n)))
  | 0, hn => by
    have h0 := head_size s hn
    refine Ev.step (fun k => rfl) (Ev.bind (Ev.lift (suffix_zero _ h0)) (Ev.neg (by simp) (Ev.pos (empty_iff.2 h0) ?_)))
    exact Ev.now _
  | m + 1, hn => by
    have hz := head_size s hn
    have hb := head_bt s hn (Nat.lt_succ_self m)
    have e2 : wrap64 (((s.extract 0 (m + 1)).size : Int) - 1) = (m : Int) := by rw [hz, wrap_in (by omega) (by omega)]; omega
    refine Ev.step (fun k => rfl) (Ev.bind (Ev.lift (suffix_succ _ m hz (by omega))) ?_)
    rw [e2, hb]
    by_cases h : bt s (m : Int) = 255
    · rw [decide_eq_true h, Int.toNat_natCast, head_head s (Nat.le_succ m)]
      refine Ev.pos rfl (Ev.pos (by omega) (Ev.pos (by omega) ?_))
      rw [trimLen, if_pos h]
      exact next_ev s hs m (by omega)
    · rw [decide_eq_false h, Int.toNat_natCast, head_head s (Nat.le_succ m)]
      have hm := head_size s (show m ≤ s.size by omega)
      refine Ev.neg (by simp) (Ev.neg (fun e => by have := empty_iff.1 e; omega) (Ev.pos (by omega) (Ev.pos (by omega) (Ev.pos (by omega) ?_))))
      rw [Option.bind_some, strOfNums_size]
      refine Ev.pos (by simp; omega) (Ev.to (Ev.now _) ?_)
      rw [trimLen, if_neg h, ← str_bytes (s.extract 0 m), head_bytes, str_append]
      congr 1
      have hlt : m < (bytesOf s).length := by rw [size_bytes]; omega
      show _ = ((bytesOf s).take (m + 1)).set m ((bt s (m : Int) + 1) % 256)
      rw [List.take_succ_eq_append_getElem hlt, List.set_append_right _ _ (by rw [List.length_take]; omega)]
      simp [List.length_take, Nat.min_eq_left (Nat.le_of_lt hlt)]

theorem walkRowsNexts (W : World) (s : ByteArray) (ok : s.size ≤ 140737488351232) :
    Calls Try.prog 3 #[.string s] W fun e w' => e = .returned (.bool true) ∧ Below W.heap.size W w' := by
  obtain ⟨k, h⟩ : ∃ k, bagnalllaw_RowsNexts.f k s = some true := Ev.rounds (by
    unfold bagnalllaw_RowsNexts.f rows_Next.f bagnallref_RowsNext.f
    have h := next_ev s ok s.size (Nat.le_refl _)
    rw [head_whole] at h
    rw [if_pos ok]
    exact Ev.bind h (Ev.to (Ev.now _) (by simp [bagnallref_RowsNext.v])))
  exact bagnalllaw_RowsNexts.calls k s true W h

end Go.Proofs.Ytnjidfgjldkkcaa.Pure
