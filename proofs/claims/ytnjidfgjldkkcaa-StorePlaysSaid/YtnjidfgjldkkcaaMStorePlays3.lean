/- Texts of this claim, laid together: QRa2, PlNext, PlSet, PlLog, PlInv, QBe1, PureRowsBegins, QFi1, PureRowsFinds, PlKv, QSd, QSp, QWp1. -/
import Derived.Test.YtnjidfgjldkkcaaMStorePlays2
-- Written for this seat by a program of its session (xp.py over the kit's printer).
namespace Go.Proofs.Ytnjidfgjldkkcaa.Q
open Go.RowKit Go.Proofs.YtnjidfgjldkkcaaW.PrintWords Go.Proofs.YtnjidfgjldkkcaaW.PrintLast Go.Proofs.YtnjidfgjldkkcaaW.PrintMore
attribute [local go_sem] max2_int min2_int max_two min_two max_three min_three max_four min_four xq_geq xq_leq xq_gtr   -- for this text's walks alone
set_option linter.unusedVariables false
set_option linter.unusedSimpArgs false

attribute [local go_sem high] eqA69
/-! ### bagnallref_rowsSet: function 60 -/
mutual
def bagnallref_rowsSet.l0 : Nat → List (S69) → Bool → List (S69) → Int → Int → ByteArray → ByteArray → Option ((List (S69)))
  | 0, _, _, _, _, _, _, _ => none
  | k + 1, x5, x6, x12, x13, x14, x111000, x111001 => if x14 < x13 then (if 0 ≤ x14 then (if x14 < (x12.length : Int) then (if x6 = true then (bagnallref_rowsSet.j1 k x5 x6 x12 x13 x14 false x111000 x111001 ((rd_T69 x12 x14).f0) ((rd_T69 x12 x14).f1)) else (bagnallref_rowsSet.j1 k x5 x6 x12 x13 x14 (Op.bytesLess x111000.toList (((rd_T69 x12 x14).f0).toList)) x111000 x111001 ((rd_T69 x12 x14).f0) ((rd_T69 x12 x14).f1))) else (none)) else (none)) else (if x6 = true then (some x5) else (if x5.length < 4398046511104 then (some (x5 ++ [(⟨x111000, x111001⟩ : S69)])) else (none)))
def bagnallref_rowsSet.j1 : Nat → List (S69) → Bool → List (S69) → Int → Int → Bool → ByteArray → ByteArray → ByteArray → ByteArray → Option ((List (S69)))
  | 0, _, _, _, _, _, _, _, _, _, _ => none
  | k + 1, x5, x6, x12, x13, x14, x26, x111000, x111001, x116000, x116001 => if x26 = true then (if x5.length < 4398046511104 then ((some (x5 ++ [(⟨x111000, x111001⟩ : S69)] : List (S69))).bind fun y116 => (if x116000.toList = x111000.toList then (bagnallref_rowsSet.l0 k y116 true x12 x13 (wrap64 (x14 + 1)) x111000 x111001) else (if y116.length < 4398046511104 then (bagnallref_rowsSet.l0 k (y116 ++ [(⟨x116000, x116001⟩ : S69)]) true x12 x13 (wrap64 (x14 + 1)) x111000 x111001) else (none)))) else (none)) else (if x116000.toList = x111000.toList then (bagnallref_rowsSet.l0 k x5 x6 x12 x13 (wrap64 (x14 + 1)) x111000 x111001) else (if x5.length < 4398046511104 then (bagnallref_rowsSet.l0 k (x5 ++ [(⟨x116000, x116001⟩ : S69)]) x6 x12 x13 (wrap64 (x14 + 1)) x111000 x111001) else (none)))
end
def bagnallref_rowsSet.f (k : Nat) (l0 : List (S69)) (a1_0 : ByteArray) (a1_1 : ByteArray) : Option ((List (S69))) := bagnallref_rowsSet.l0 k ([] : List (S69)) (a1_1.toList == ([] : List UInt8)) l0 (l0.length : Int) 0 a1_0 a1_1
theorem bagnallref_rowsSet.mono_l : ∀ k, (∀ y0 y1 y2 y3 y4 y5 y6, LeO (bagnallref_rowsSet.l0 k y0 y1 y2 y3 y4 y5 y6) (bagnallref_rowsSet.l0 (k + 1) y0 y1 y2 y3 y4 y5 y6)) ∧ (∀ y0 y1 y2 y3 y4 y5 y6 y7 y8 y9, LeO (bagnallref_rowsSet.j1 k y0 y1 y2 y3 y4 y5 y6 y7 y8 y9) (bagnallref_rowsSet.j1 (k + 1) y0 y1 y2 y3 y4 y5 y6 y7 y8 y9))
  | 0 => ⟨fun _ _ _ _ _ _ _ r h => by simp [bagnallref_rowsSet.l0] at h, fun _ _ _ _ _ _ _ _ _ _ r h => by simp [bagnallref_rowsSet.j1] at h⟩
  | k + 1 => by
    obtain ⟨ih0, ih1⟩ := bagnallref_rowsSet.mono_l k
    refine ⟨?_, ?_⟩
    · intro y0 y1 y2 y3 y4 y5 y6
      unfold bagnallref_rowsSet.l0
      repeat' first
      | (with_reducible exact ih0 _ _ _ _ _ _ _)
      | (with_reducible exact ih1 _ _ _ _ _ _ _ _ _ _)
      | (with_reducible exact LeO.refl _)
      | (with_reducible exact LeO.none _)
      | (with_reducible refine LeO.ite ?_ ?_)
      | (with_reducible refine LeO.bind ?_ (fun _ => ?_))
      | exact ih0 _ _ _ _ _ _ _
      | exact ih1 _ _ _ _ _ _ _ _ _ _
      | exact LeO.none _
      | refine LeO.ite ?_ ?_
      | refine LeO.bind ?_ (fun _ => ?_)
    · intro y0 y1 y2 y3 y4 y5 y6 y7 y8 y9
      unfold bagnallref_rowsSet.j1
      repeat' first
      | (with_reducible exact ih0 _ _ _ _ _ _ _)
      | (with_reducible exact ih1 _ _ _ _ _ _ _ _ _ _)
      | (with_reducible exact LeO.refl _)
      | (with_reducible exact LeO.none _)
      | (with_reducible refine LeO.ite ?_ ?_)
      | (with_reducible refine LeO.bind ?_ (fun _ => ?_))
      | exact ih0 _ _ _ _ _ _ _
      | exact ih1 _ _ _ _ _ _ _ _ _ _
      | exact LeO.none _
      | refine LeO.ite ?_ ?_
      | refine LeO.bind ?_ (fun _ => ?_)
theorem bagnallref_rowsSet.mono : ∀ a0 a1 a2 k, LeO (bagnallref_rowsSet.f k a0 a1 a2) (bagnallref_rowsSet.f (k + 1) a0 a1 a2) := by
  intro a0 a1 a2 k
  obtain ⟨ih0, ih1⟩ := bagnallref_rowsSet.mono_l k
  unfold bagnallref_rowsSet.f
  repeat' first
      | (with_reducible exact ih0 _ _ _ _ _ _ _)
      | (with_reducible exact ih1 _ _ _ _ _ _ _ _ _ _)
      | (with_reducible exact LeO.refl _)
      | (with_reducible exact LeO.none _)
      | (with_reducible refine LeO.ite ?_ ?_)
      | (with_reducible refine LeO.bind ?_ (fun _ => ?_))
      | exact ih0 _ _ _ _ _ _ _
      | exact ih1 _ _ _ _ _ _ _ _ _ _
      | exact LeO.none _
      | refine LeO.ite ?_ ?_
      | refine LeO.bind ?_ (fun _ => ?_)
set_option maxHeartbeats 8000000 in
set_option maxRecDepth 100000 in
theorem bagnallref_rowsSet.calls (k : Nat) (A0 : Option Addr) (c0 : Nat) (l0 : List (S69)) (a1_0 : ByteArray) (a1_1 : ByteArray) (r : List (S69)) (w : World) (hr0 : Kd.C k69 w A0 l0.length l0) (hc0 : l0.length ≤ c0) (h : bagnallref_rowsSet.f k l0 a1_0 a1_1 = some r) :
    Calls Try.prog 60 #[.slice A0 l0.length c0, .agg #[.string a1_0, .string a1_1]] w fun e w' => ∃ v0_ : Value, e = .returned (v0_) ∧ Kd.R k69 69 w' w.heap.size (fun _ => True) v0_ r ∧ Below w.heap.size w w' := by
  have hu69 := Try.underlying69
  have HR0 := Aside0.mk hr0
  have HC0 := Aside0.mk hc0
  clear hr0 hc0
  have HB := Aside0.mk (Below.refl w.heap.size w)
  have H : (bagnallref_rowsSet.l0 k ([] : List (S69)) (a1_1.toList == ([] : List UInt8)) l0 (l0.length : Int) 0 a1_0 a1_1) = some r := h
  clear h
  have H' := Aside0.mk H
  clear H
  go_enter Try.func60, Try.ntmps60
  go_wp2_with (first | ((with_reducible refine gate_dst (N := 3) rfl ?_); refine box_event ?hg (N := 3) ?hd (cs := #[.string a1_0, .string a1_1]) (t := 69) ?hr ?_; (case hd => rfl); (case hg => rfl); (case hr => first | (go_simp; done) | (go_simp; rfl)); intro gb110 hg w3 hbox hb; have n0_ := Aside0.mk (below_step (by repeat (first | (with_reducible first | exact HB.out | apply below_alloc | apply pw_below_drewN | apply below_drew1) | exact HB.out)) hb); have n1_ := Aside0.mk (hbox); have n2_ := Aside0.mk ((by rw [hg]; exact (below_size (by repeat (first | (with_reducible first | exact HB.out | apply below_alloc | apply pw_below_drewN | apply below_drew1) | exact HB.out))) : w.heap.size ≤ gb110)); have n3_ := Aside0.mk ((by rw [hg]; exact (below_size (by repeat (first | (with_reducible first | exact HB.out | apply below_alloc | apply pw_below_drewN | apply below_drew1) | exact HB.out))) : w.heap.size ≤ gb110)); clear HB; have HB := n0_; have BK110 := n1_; have GW110 := n2_; have GE110 := n3_; clear n0_ n1_ n2_ n3_; clear hb hbox hg; have hcz4_0 : w3.cell? ⟨gb110, 0, none⟩ = some (.string a1_0) := (blk_cell BK110.out 0).trans rfl; have hcz4_1 : w3.cell? ⟨gb110, 1, none⟩ = some (.string a1_1) := (blk_cell BK110.out 1).trans rfl; have hfz4_0 := blk_frozen BK110.out 0; have hfz4_1 := blk_frozen BK110.out 1))
  go_loopg [5, 6, 14] k (fun kq v5 v6 v14 w' => ∃ (x5_1 : List (S69)) (x6_1 : Bool) (x14_1 : Int), v6 = .bool x6_1 ∧ v14 = .int .i64 x14_1 ∧ Aside0 (bagnallref_rowsSet.l0 kq x5_1 x6_1 l0 (l0.length : Int) x14_1 a1_0 a1_1 = some r) ∧ Aside0 (kq ≤ k) ∧ Aside0 (Kd.R k69 69 w' w.heap.size (fun k_ => k_ ≠ gb110) v5 x5_1) ∧ Aside0 (w'.heap[gb110]? = some (.cells #[.string a1_0, .string a1_1] 69 (0, 0))) ∧ Aside0 (Below w.heap.size w w'))
  case atStart => exact ⟨(([] : List (S69))), ((a1_1.toList == ([] : List UInt8))), (0), (by first | rfl | (simp; done) | (simp [*]; done)), (by first | rfl | (simp; done) | (simp [*]; done)), H', ⟨Nat.le_refl _⟩, ⟨by first | exact Kd.R_nil _ _ _ _ _ | exact Kd.N_nil _ _ _ _ _ | exact Kd.V_nil _ _ _ _ _ | exact Kd.Q_nil _ _ _ _ _ | exact Kd.S_nil _ _ _ _ _⟩, ⟨by (with_reducible repeat (first | refine blk_drewN ?_ _ | refine blk_drew ?_ | refine blk_alloc ?_ _)); exact BK110.out⟩, ⟨by repeat (first | (with_reducible first | exact HB.out | apply below_alloc | apply pw_below_drewN | apply below_drew1 | refine below_set ?_ GE110.out) | exact HB.out)⟩⟩
  case round =>
    clear H'
    try clear p2
    try clear hcz4_0
    try clear hcz4_1
    try clear hfz4_0
    try clear hfz4_1
    obtain ⟨x5_1, x6_1, x14_1, rfl, rfl, HA, HK1, HO_5, BK110, HB⟩ := hrel
    cases gk with
    | zero => exact absurd HA.out (by simp [bagnallref_rowsSet.l0])
    | succ k1 =>
      have H := HA.out
      clear HA
      simp only [bagnallref_rowsSet.l0] at H
      by_cases c5 : x14_1 < (l0.length : Int)
      · rw [if_pos c5] at H
        have c5b0 : decide (x14_1 < (l0.length : Int)) = true := decide_eq_true c5
        clear c5
        by_cases c6 : 0 ≤ x14_1
        · rw [if_pos c6] at H
          have c6b0 : decide (0 ≤ x14_1) = true := decide_eq_true c6
          clear c6
          by_cases c7 : x14_1 < (l0.length : Int)
          · rw [if_pos c7] at H
            have c7b0 : decide (x14_1 < (l0.length : Int)) = true := decide_eq_true c7
            clear c7
            have HC8 := Aside0.mk H
            clear H
            have p114 : 0 ≤ (x14_1 : Int) := of_decide_eq_true (by first | (with_reducible assumption) | assumption)
            have q114 : x14_1 < (l0.length : Int) := of_decide_eq_true (by first | (with_reducible assumption) | assumption)
            obtain ⟨ad114, e114, hx114_0, hx114_1⟩ := at_T69 HR0.out x14_1 p114 q114
            cases e114
            replace hx114_0 := (HB.out.cell (World.block_lt_of_cell? w _ hx114_0)).trans hx114_0
            replace hx114_1 := (HB.out.cell (World.block_lt_of_cell? w _ hx114_1)).trans hx114_1
            replace p114 := eq_true p114
            replace q114 := eq_true q114
            go_upto_region 6 with (first | ((with_reducible refine gate_dst (N := 8) rfl ?_); refine box_event ?hg (N := 8) ?hd (cs := #[.string (⟨#[]⟩ : ByteArray), .string (⟨#[]⟩ : ByteArray)]) (t := 69) ?hr ?_; (case hd => rfl); (case hg => rfl); (case hr => first | (go_simp; done) | (go_simp; rfl)); intro gb115 hg w9 hbox hb; have n0_ := Aside0.mk (Kd.R_below (Kd.R_elderB (by (with_reducible repeat (first | apply Kd.R_alloc | apply Kd.R_drewN | apply Kd.R_drew)); exact HO_5.out) gb115 (Nat.le_of_eq hg.symm)) hb); have n1_ := Aside0.mk (blk_below (g := gb110) (o := .cells #[.string a1_0, .string a1_1] 69 (0, 0)) (by (with_reducible repeat (first | refine blk_drewN ?_ _ | refine blk_drew ?_ | refine blk_alloc ?_ _)); exact BK110.out) hb); have n2_ := Aside0.mk (below_step (by repeat (first | (with_reducible first | exact HB.out | apply below_alloc | apply pw_below_drewN | apply below_drew1 | refine below_set ?_ GE110.out) | exact HB.out)) hb); have n3_ := Aside0.mk (hbox); have n4_ := Aside0.mk ((by rw [hg]; exact (below_size (by repeat (first | (with_reducible first | exact HB.out | apply below_alloc | apply pw_below_drewN | apply below_drew1 | refine below_set ?_ GE110.out) | exact HB.out))) : w.heap.size ≤ gb115)); have n5_ := Aside0.mk ((by rw [hg]; exact (below_size (by repeat (first | (with_reducible first | exact HB.out | apply below_alloc | apply pw_below_drewN | apply below_drew1 | refine below_set ?_ GE110.out) | exact HB.out))) : w.heap.size ≤ gb115)); have n6_ := Aside0.mk ((by rw [hg]; exact Nat.ne_of_lt (blk_lt (g := gb110) (o := .cells #[.string a1_0, .string a1_1] 69 (0, 0)) (by (with_reducible repeat (first | refine blk_drewN ?_ _ | refine blk_drew ?_ | refine blk_alloc ?_ _)); exact BK110.out)) : gb110 ≠ gb115)); have n7_ := Aside0.mk ((by rw [hg]; exact Nat.ne_of_gt (blk_lt (g := gb110) (o := .cells #[.string a1_0, .string a1_1] 69 (0, 0)) (by (with_reducible repeat (first | refine blk_drewN ?_ _ | refine blk_drew ?_ | refine blk_alloc ?_ _)); exact BK110.out)) : gb115 ≠ gb110)); clear HO_5; clear BK110; clear HB; have HO_5 := n0_; have BK110 := n1_; have HB := n2_; have BK115 := n3_; have GW115 := n4_; have GE115 := n5_; have NB110_115 := n6_; have NB115_110 := n7_; clear n0_ n1_ n2_ n3_ n4_ n5_ n6_ n7_; clear hb hbox hg; have hnb10 := NB115_110.out; have hnc10 := NB110_115.out; have hcz11_0 : w9.cell? ⟨gb115, 0, none⟩ = some (.string (⟨#[]⟩ : ByteArray)) := (blk_cell BK115.out 0).trans rfl; have hcz11_1 : w9.cell? ⟨gb115, 1, none⟩ = some (.string (⟨#[]⟩ : ByteArray)) := (blk_cell BK115.out 1).trans rfl; have hfz11_0 := blk_frozen BK115.out 0; have hfz11_1 := blk_frozen BK115.out 1))
            (try simp only [Act.put, List.setIfInBounds_toArray, List.set_cons_zero, List.set_cons_succ])
            go_cut [26] (fun v26 wc => ∃ (kq : Nat) (x26_7 : Bool), v26 = .bool x26_7 ∧ Aside0 (bagnallref_rowsSet.j1 kq x5_1 x6_1 l0 (l0.length : Int) x14_1 x26_7 a1_0 a1_1 ((rd_T69 l0 x14_1).f0) ((rd_T69 l0 x14_1).f1) = some r) ∧ Aside0 (kq ≤ k1) ∧ Aside0 (Kd.R k69 69 wc w.heap.size (fun k_ => k_ ≠ gb110 ∧ k_ ≠ gb115) u5 x5_1) ∧ Aside0 (wc.heap[gb110]? = some (.cells #[.string a1_0, .string a1_1] 69 (0, 0))) ∧ Aside0 (wc.heap[gb115]? = some (.cells #[.string ((rd_T69 l0 x14_1).f0), .string ((rd_T69 l0 x14_1).f1)] 69 (0, 0))) ∧ Aside0 (Below w.heap.size w wc))
            case first =>
              have H := HC8.out
              clear HC8
              by_cases c12 : x6_1 = true
              · subst c12
                have H1 : (bagnallref_rowsSet.j1 k1 x5_1 true l0 (l0.length : Int) x14_1 false a1_0 a1_1 ((rd_T69 l0 x14_1).f0) ((rd_T69 l0 x14_1).f1)) = some r := by rw [if_pos rfl] at H; exact H
                clear H
                have H := H1
                clear H1
                have H' := Aside0.mk H
                clear H
                go_wp2
                go_meet
                case rel => exact ⟨_, (false), (by first | rfl | (simp; done) | (simp [*]; done)), H', ⟨by have := HK1.out; first | omega | exact Nat.le_refl _⟩, ⟨by (with_reducible repeat (first | apply Kd.R_alloc | apply Kd.R_drewN | apply Kd.R_drew)); exact Kd.R_mono (Kd.R_far (p := ⟨gb115, 1, none⟩) (Kd.R_far (p := ⟨gb115, 0, none⟩) (Kd.R_mono HO_5.out (fun k_ hk => (⟨hk, hk.2⟩ : _ ∧ k_ ≠ gb115))) (fun _ hk => hk.2) (.string ((rd_T69 l0 x14_1).f0))) (fun _ hk => hk.2) (.string ((rd_T69 l0 x14_1).f1))) (fun _ hk => ⟨hk.1.1, hk.1.2⟩)⟩, ⟨by (with_reducible repeat (first | refine blk_drewN ?_ _ | refine blk_drew ?_ | refine blk_alloc ?_ _)); refine blk_far ?_ NB110_115.out _; (with_reducible repeat (first | refine blk_drewN ?_ _ | refine blk_drew ?_ | refine blk_alloc ?_ _)); refine blk_far ?_ NB110_115.out _; (with_reducible repeat (first | refine blk_drewN ?_ _ | refine blk_drew ?_ | refine blk_alloc ?_ _)); exact BK110.out⟩, ⟨by (with_reducible repeat (first | refine blk_drewN ?_ _ | refine blk_drew ?_ | refine blk_alloc ?_ _)); refine blk_put (cs := #[.string ((rd_T69 l0 x14_1).f0), .string (⟨#[]⟩ : ByteArray)]) ?_ 1 _ rfl; (with_reducible repeat (first | refine blk_drewN ?_ _ | refine blk_drew ?_ | refine blk_alloc ?_ _)); refine blk_put (cs := #[.string (⟨#[]⟩ : ByteArray), .string (⟨#[]⟩ : ByteArray)]) ?_ 0 _ rfl; (with_reducible repeat (first | refine blk_drewN ?_ _ | refine blk_drew ?_ | refine blk_alloc ?_ _)); exact BK115.out⟩, ⟨by repeat (first | (with_reducible first | exact HB.out | apply below_alloc | apply pw_below_drewN | apply below_drew1 | refine below_set ?_ GE110.out | refine below_set ?_ GE115.out) | exact HB.out)⟩⟩
              · replace c12 := Bool.eq_false_iff.mpr c12
                subst c12
                have H1 : (bagnallref_rowsSet.j1 k1 x5_1 false l0 (l0.length : Int) x14_1 (Op.bytesLess a1_0.toList (((rd_T69 l0 x14_1).f0).toList)) a1_0 a1_1 ((rd_T69 l0 x14_1).f0) ((rd_T69 l0 x14_1).f1)) = some r := by rw [if_neg (show ¬ (false = true) by decide)] at H; exact H
                clear H
                have H := H1
                clear H1
                have H' := Aside0.mk H
                clear H
                have hnb13 := NB115_110.out
                have hnc13 := NB110_115.out
                have hcz14_0 : w9.cell? ⟨gb115, 0, none⟩ = some (.string (⟨#[]⟩ : ByteArray)) := (blk_cell BK115.out 0).trans rfl
                have hcz14_1 : w9.cell? ⟨gb115, 1, none⟩ = some (.string (⟨#[]⟩ : ByteArray)) := (blk_cell BK115.out 1).trans rfl
                have hfz14_0 := blk_frozen BK115.out 0
                have hfz14_1 := blk_frozen BK115.out 1
                have hcz15_0 : w9.cell? ⟨gb110, 0, none⟩ = some (.string a1_0) := (blk_cell BK110.out 0).trans rfl
                have hcz15_1 : w9.cell? ⟨gb110, 1, none⟩ = some (.string a1_1) := (blk_cell BK110.out 1).trans rfl
                have hfz15_0 := blk_frozen BK110.out 0
                have hfz15_1 := blk_frozen BK110.out 1
                go_wp2
                go_meet
                case rel => exact ⟨_, ((Op.bytesLess a1_0.toList (((rd_T69 l0 x14_1).f0).toList))), (by first | rfl | (simp; done) | (simp [*]; done)), H', ⟨by have := HK1.out; first | omega | exact Nat.le_refl _⟩, ⟨by (with_reducible repeat (first | apply Kd.R_alloc | apply Kd.R_drewN | apply Kd.R_drew)); exact Kd.R_mono (Kd.R_far (p := ⟨gb115, 1, none⟩) (Kd.R_far (p := ⟨gb115, 0, none⟩) (Kd.R_mono HO_5.out (fun k_ hk => (⟨hk, hk.2⟩ : _ ∧ k_ ≠ gb115))) (fun _ hk => hk.2) (.string ((rd_T69 l0 x14_1).f0))) (fun _ hk => hk.2) (.string ((rd_T69 l0 x14_1).f1))) (fun _ hk => ⟨hk.1.1, hk.1.2⟩)⟩, ⟨by (with_reducible repeat (first | refine blk_drewN ?_ _ | refine blk_drew ?_ | refine blk_alloc ?_ _)); refine blk_far ?_ NB110_115.out _; (with_reducible repeat (first | refine blk_drewN ?_ _ | refine blk_drew ?_ | refine blk_alloc ?_ _)); refine blk_far ?_ NB110_115.out _; (with_reducible repeat (first | refine blk_drewN ?_ _ | refine blk_drew ?_ | refine blk_alloc ?_ _)); exact BK110.out⟩, ⟨by (with_reducible repeat (first | refine blk_drewN ?_ _ | refine blk_drew ?_ | refine blk_alloc ?_ _)); refine blk_put (cs := #[.string ((rd_T69 l0 x14_1).f0), .string (⟨#[]⟩ : ByteArray)]) ?_ 1 _ rfl; (with_reducible repeat (first | refine blk_drewN ?_ _ | refine blk_drew ?_ | refine blk_alloc ?_ _)); refine blk_put (cs := #[.string (⟨#[]⟩ : ByteArray), .string (⟨#[]⟩ : ByteArray)]) ?_ 0 _ rfl; (with_reducible repeat (first | refine blk_drewN ?_ _ | refine blk_drew ?_ | refine blk_alloc ?_ _)); exact BK115.out⟩, ⟨by repeat (first | (with_reducible first | exact HB.out | apply below_alloc | apply pw_below_drewN | apply below_drew1 | refine below_set ?_ GE110.out | refine below_set ?_ GE115.out) | exact HB.out)⟩⟩
            case rest =>
              clear HC8
              try clear c1
              try clear p1
              try clear q1
              try clear hx1
              try clear p2
              try clear c5
              try clear c5b0
              try clear c6
              try clear c6b0
              try clear c7
              try clear c7b0
              try clear c10
              try clear p11
              try clear q11
              try clear hx11
              try clear c12
              try clear c13
              try clear hcz11_0
              try clear hcz11_1
              try clear hcz14_0
              try clear hcz14_1
              try clear hcz15_0
              try clear hcz15_1
              try clear hcz4_0
              try clear hcz4_1
              try clear hfz11_0
              try clear hfz11_1
              try clear hfz14_0
              try clear hfz14_1
              try clear hfz15_0
              try clear hfz15_1
              try clear hfz4_0
              try clear hfz4_1
              try clear hx114_0
              try clear hx114_1
              try clear p114
              try clear p2
              try clear q114
              obtain ⟨kq, x26_7, rfl, HA, HJ7, HO_5, BK110, BK115, HB⟩ := hcut
              cases kq with
              | zero => exact absurd HA.out (by simp [bagnallref_rowsSet.j1])
              | succ kj7 =>
                have H := HA.out
                clear HA
                simp only [bagnallref_rowsSet.j1] at H
                by_cases c16 : x26_7 = true
                · subst c16
                  have H1 : (if x5_1.length < 4398046511104 then ((some (x5_1 ++ [(⟨a1_0, a1_1⟩ : S69)] : List (S69))).bind fun y116 => (if ((rd_T69 l0 x14_1).f0).toList = a1_0.toList then (bagnallref_rowsSet.l0 kj7 y116 true l0 (l0.length : Int) (wrap64 (x14_1 + 1)) a1_0 a1_1) else (if y116.length < 4398046511104 then (bagnallref_rowsSet.l0 kj7 (y116 ++ [(⟨((rd_T69 l0 x14_1).f0), ((rd_T69 l0 x14_1).f1)⟩ : S69)]) true l0 (l0.length : Int) (wrap64 (x14_1 + 1)) a1_0 a1_1) else (none)))) else (none)) = some r := by rw [if_pos rfl] at H; exact H
                  clear H
                  have H := H1
                  clear H1
                  by_cases c17 : x5_1.length < 4398046511104
                  · rw [if_pos c17] at H
                    have LMc17 := Aside0.mk c17
                    clear c17
                    obtain ⟨y116, hy116⟩ : ∃ y_ : List (S69), y_ = (x5_1 ++ [(⟨a1_0, a1_1⟩ : S69)]) := ⟨_, rfl⟩
                    replace H : (if ((rd_T69 l0 x14_1).f0).toList = a1_0.toList then (bagnallref_rowsSet.l0 kj7 y116 true l0 (l0.length : Int) (wrap64 (x14_1 + 1)) a1_0 a1_1) else (if y116.length < 4398046511104 then (bagnallref_rowsSet.l0 kj7 (y116 ++ [(⟨((rd_T69 l0 x14_1).f0), ((rd_T69 l0 x14_1).f1)⟩ : S69)]) true l0 (l0.length : Int) (wrap64 (x14_1 + 1)) a1_0 a1_1) else (none))) = some r := by first | (rw [hy116]; with_reducible exact H) | (have H2_ := (Option.bind_some _ _).symm.trans H; rw [hy116]; with_reducible exact H2_) | (have H2_ := (Option.bind_some _ _).symm.trans H; with_reducible exact H2_) | with_reducible exact H | (rw [hy116]; exact H) | exact H
                    have Ny116 := Aside0.mk hy116
                    clear hy116
                    by_cases c18 : ((rd_T69 l0 x14_1).f0).toList = a1_0.toList
                    · rw [if_pos c18] at H
                      have c18b0 : (((rd_T69 l0 x14_1).f0).toList == a1_0.toList) = true := beq_iff_eq.mpr c18
                      have c18b1 : (((rd_T69 l0 x14_1).f0).toList != a1_0.toList) = false := bne_eq_false_iff_eq.mpr c18
                      clear c18
                      have H' := Aside0.mk H
                      clear H
                      have hnb19 := NB110_115.out
                      have hnc19 := NB115_110.out
                      have hcz20_0 : wc.cell? ⟨gb110, 0, none⟩ = some (.string a1_0) := (blk_cell BK110.out 0).trans rfl
                      have hcz20_1 : wc.cell? ⟨gb110, 1, none⟩ = some (.string a1_1) := (blk_cell BK110.out 1).trans rfl
                      have hfz20_0 := blk_frozen BK110.out 0
                      have hfz20_1 := blk_frozen BK110.out 1
                      go_wp2_with (first | ((with_reducible refine gate_builtin (b := .append) (xs := #[.tmp 27, .tmp 29]) rfl ?_); at_builtin; refine Kd.R_append k69 (w0 := w) w.heap.size rfl (.tmp 27) (.tmp 29) 24 69 (.agg #[(.string ⟨#[]⟩), (.string ⟨#[]⟩)]) 32 rfl Try.underlying24 info69 rfl (by decide) (by omega) u5 x5_1 (⟨a1_0, a1_1⟩ : S69) [.string a1_0, .string a1_1] (fun k_ => k_ ≠ gb110 ∧ k_ ≠ gb115) (fun _ => False) rfl rfl ?aP (fun _ hk => hk.elim) ?aF ?aO ?aB ?aS ?aL ?_; (case aP => exact k69_mkM _ _ _ (⟨a1_0, a1_1⟩ : S69)); (case aB => exact (by repeat (first | (with_reducible first | exact HB.out | apply below_alloc | apply pw_below_drewN | apply below_drew1 | refine below_set ?_ GE110.out | refine below_set ?_ GE115.out) | exact HB.out))); (case aF => exact (fun k_ hk => ⟨Kd.freshB (g := gb110) (o := .cells #[.string a1_0, .string a1_1] 69 (0, 0)) (by (with_reducible repeat (first | refine blk_drewN ?_ _ | refine blk_drew ?_ | refine blk_alloc ?_ _)); exact BK110.out) k_ hk, Kd.freshB (g := gb115) (o := .cells #[.string ((rd_T69 l0 x14_1).f0), .string ((rd_T69 l0 x14_1).f1)] 69 (0, 0)) (by (with_reducible repeat (first | refine blk_drewN ?_ _ | refine blk_drew ?_ | refine blk_alloc ?_ _)); exact BK115.out) k_ hk⟩)); (case aO => exact (by (with_reducible repeat (first | apply Kd.R_alloc | apply Kd.R_drewN | apply Kd.R_drew)); exact HO_5.out)); (case aS => exact (below_size (by repeat (first | (with_reducible first | exact HB.out | apply below_alloc | apply pw_below_drewN | apply below_drew1 | refine below_set ?_ GE110.out | refine below_set ?_ GE115.out) | exact HB.out)))); (case aL => have := LMc17.out; omega); intro v117 w21 ho hb hg hat; rw [← Ny116.out] at ho; have n0_ := Aside0.mk (blk_grown (g := gb110) (o := .cells #[.string a1_0, .string a1_1] 69 (0, 0)) (by (with_reducible repeat (first | refine blk_drewN ?_ _ | refine blk_drew ?_ | refine blk_alloc ?_ _)); exact BK110.out) hg (Kd.R_away HO_5.out (fun _ hk => hk.1))); have n1_ := Aside0.mk (blk_grown (g := gb115) (o := .cells #[.string ((rd_T69 l0 x14_1).f0), .string ((rd_T69 l0 x14_1).f1)] 69 (0, 0)) (by (with_reducible repeat (first | refine blk_drewN ?_ _ | refine blk_drew ?_ | refine blk_alloc ?_ _)); exact BK115.out) hg (Kd.R_away HO_5.out (fun _ hk => hk.2))); have n2_ := Aside0.mk (hb); have n3_ := Aside0.mk (ho); clear BK110; clear BK115; clear HB; clear HO_5; have BK110 := n0_; have BK115 := n1_; have HB := n2_; have HO118 := n3_; clear n0_ n1_ n2_ n3_; clear ho hb hg hat; have hcz22_0 : w21.cell? ⟨gb115, 0, none⟩ = some (.string ((rd_T69 l0 x14_1).f0)) := (blk_cell BK115.out 0).trans rfl; have hcz22_1 : w21.cell? ⟨gb115, 1, none⟩ = some (.string ((rd_T69 l0 x14_1).f1)) := (blk_cell BK115.out 1).trans rfl; have hfz22_0 := blk_frozen BK115.out 0; have hfz22_1 := blk_frozen BK115.out 1; have hcz23_0 : w21.cell? ⟨gb110, 0, none⟩ = some (.string a1_0) := (blk_cell BK110.out 0).trans rfl; have hcz23_1 : w21.cell? ⟨gb110, 1, none⟩ = some (.string a1_1) := (blk_cell BK110.out 1).trans rfl; have hfz23_0 := blk_frozen BK110.out 0; have hfz23_1 := blk_frozen BK110.out 1))
                      go_roundg kj7
                      case measure => have := HK1.out; have := HJ7.out; omega
                      case rel => exact ⟨(y116), (true), (wrap64 (x14_1 + 1)), (by first | rfl | (simp; done) | (simp [*]; done)), (by first | rfl | (simp; done) | (simp [*]; done)), H', ⟨by have := HK1.out; have := HJ7.out; omega⟩, ⟨by (with_reducible repeat (first | apply Kd.R_alloc | apply Kd.R_drewN | apply Kd.R_drew)); exact Kd.R_mono HO118.out (fun _ hk => hk.1)⟩, ⟨by (with_reducible repeat (first | refine blk_drewN ?_ _ | refine blk_drew ?_ | refine blk_alloc ?_ _)); exact BK110.out⟩, ⟨by repeat (first | (with_reducible first | exact HB.out | apply below_alloc | apply pw_below_drewN | apply below_drew1 | refine below_set ?_ GE110.out | refine below_set ?_ GE115.out) | exact HB.out)⟩⟩
                    · rw [if_neg c18] at H
                      have c18b0 : (((rd_T69 l0 x14_1).f0).toList == a1_0.toList) = false := beq_eq_false_iff_ne.mpr c18
                      have c18b1 : (((rd_T69 l0 x14_1).f0).toList != a1_0.toList) = true := bne_iff_ne.mpr c18
                      by_cases c24 : y116.length < 4398046511104
                      · rw [if_pos c24] at H
                        have LMc24 := Aside0.mk c24
                        clear c24
                        obtain ⟨y119, hy119⟩ : ∃ y_ : List (S69), y_ = (y116 ++ [(⟨((rd_T69 l0 x14_1).f0), ((rd_T69 l0 x14_1).f1)⟩ : S69)]) := ⟨_, rfl⟩
                        replace H : (bagnallref_rowsSet.l0 kj7 y119 true l0 (l0.length : Int) (wrap64 (x14_1 + 1)) a1_0 a1_1) = some r := by first | (rw [hy119]; with_reducible exact H) | (have H2_ := (Option.bind_some _ _).symm.trans H; rw [hy119]; with_reducible exact H2_) | (have H2_ := (Option.bind_some _ _).symm.trans H; with_reducible exact H2_) | with_reducible exact H | (rw [hy119]; exact H) | exact H
                        have Ny119 := Aside0.mk hy119
                        clear hy119
                        have H' := Aside0.mk H
                        clear H
                        have hnb25 := NB110_115.out
                        have hnc25 := NB115_110.out
                        have hcz26_0 : wc.cell? ⟨gb110, 0, none⟩ = some (.string a1_0) := (blk_cell BK110.out 0).trans rfl
                        have hcz26_1 : wc.cell? ⟨gb110, 1, none⟩ = some (.string a1_1) := (blk_cell BK110.out 1).trans rfl
                        have hfz26_0 := blk_frozen BK110.out 0
                        have hfz26_1 := blk_frozen BK110.out 1
                        go_wp2_with (first | ((with_reducible refine gate_builtin (b := .append) (xs := #[.tmp 27, .tmp 29]) rfl ?_); at_builtin; refine Kd.R_append k69 (w0 := w) w.heap.size rfl (.tmp 27) (.tmp 29) 24 69 (.agg #[(.string ⟨#[]⟩), (.string ⟨#[]⟩)]) 32 rfl Try.underlying24 info69 rfl (by decide) (by omega) u5 x5_1 (⟨a1_0, a1_1⟩ : S69) [.string a1_0, .string a1_1] (fun k_ => k_ ≠ gb110 ∧ k_ ≠ gb115) (fun _ => False) rfl rfl ?aP (fun _ hk => hk.elim) ?aF ?aO ?aB ?aS ?aL ?_; (case aP => exact k69_mkM _ _ _ (⟨a1_0, a1_1⟩ : S69)); (case aB => exact (by repeat (first | (with_reducible first | exact HB.out | apply below_alloc | apply pw_below_drewN | apply below_drew1 | refine below_set ?_ GE110.out | refine below_set ?_ GE115.out) | exact HB.out))); (case aF => exact (fun k_ hk => ⟨Kd.freshB (g := gb110) (o := .cells #[.string a1_0, .string a1_1] 69 (0, 0)) (by (with_reducible repeat (first | refine blk_drewN ?_ _ | refine blk_drew ?_ | refine blk_alloc ?_ _)); exact BK110.out) k_ hk, Kd.freshB (g := gb115) (o := .cells #[.string ((rd_T69 l0 x14_1).f0), .string ((rd_T69 l0 x14_1).f1)] 69 (0, 0)) (by (with_reducible repeat (first | refine blk_drewN ?_ _ | refine blk_drew ?_ | refine blk_alloc ?_ _)); exact BK115.out) k_ hk⟩)); (case aO => exact (by (with_reducible repeat (first | apply Kd.R_alloc | apply Kd.R_drewN | apply Kd.R_drew)); exact HO_5.out)); (case aS => exact (below_size (by repeat (first | (with_reducible first | exact HB.out | apply below_alloc | apply pw_below_drewN | apply below_drew1 | refine below_set ?_ GE110.out | refine below_set ?_ GE115.out) | exact HB.out)))); (case aL => have := LMc17.out; omega); intro v117 w27 ho hb hg hat; rw [← Ny116.out] at ho; have n0_ := Aside0.mk (blk_grown (g := gb110) (o := .cells #[.string a1_0, .string a1_1] 69 (0, 0)) (by (with_reducible repeat (first | refine blk_drewN ?_ _ | refine blk_drew ?_ | refine blk_alloc ?_ _)); exact BK110.out) hg (Kd.R_away HO_5.out (fun _ hk => hk.1))); have n1_ := Aside0.mk (blk_grown (g := gb115) (o := .cells #[.string ((rd_T69 l0 x14_1).f0), .string ((rd_T69 l0 x14_1).f1)] 69 (0, 0)) (by (with_reducible repeat (first | refine blk_drewN ?_ _ | refine blk_drew ?_ | refine blk_alloc ?_ _)); exact BK115.out) hg (Kd.R_away HO_5.out (fun _ hk => hk.2))); have n2_ := Aside0.mk (hb); have n3_ := Aside0.mk (ho); clear BK110; clear BK115; clear HB; clear HO_5; have BK110 := n0_; have BK115 := n1_; have HB := n2_; have HO118 := n3_; clear n0_ n1_ n2_ n3_; clear ho hb hg hat; have hcz28_0 : w27.cell? ⟨gb115, 0, none⟩ = some (.string ((rd_T69 l0 x14_1).f0)) := (blk_cell BK115.out 0).trans rfl; have hcz28_1 : w27.cell? ⟨gb115, 1, none⟩ = some (.string ((rd_T69 l0 x14_1).f1)) := (blk_cell BK115.out 1).trans rfl; have hfz28_0 := blk_frozen BK115.out 0; have hfz28_1 := blk_frozen BK115.out 1; have hcz29_0 : w27.cell? ⟨gb110, 0, none⟩ = some (.string a1_0) := (blk_cell BK110.out 0).trans rfl; have hcz29_1 : w27.cell? ⟨gb110, 1, none⟩ = some (.string a1_1) := (blk_cell BK110.out 1).trans rfl; have hfz29_0 := blk_frozen BK110.out 0; have hfz29_1 := blk_frozen BK110.out 1) | ((with_reducible refine gate_builtin (b := .append) (xs := #[.tmp 36, .tmp 38]) rfl ?_); at_builtin; refine Kd.R_append k69 (w0 := w) w.heap.size rfl (.tmp 36) (.tmp 38) 24 69 (.agg #[(.string ⟨#[]⟩), (.string ⟨#[]⟩)]) 32 rfl Try.underlying24 info69 rfl (by decide) (by omega) v117 y116 (⟨((rd_T69 l0 x14_1).f0), ((rd_T69 l0 x14_1).f1)⟩ : S69) [.string ((rd_T69 l0 x14_1).f0), .string ((rd_T69 l0 x14_1).f1)] (fun k_ => k_ ≠ gb110 ∧ k_ ≠ gb115) (fun _ => False) rfl rfl ?aP (fun _ hk => hk.elim) ?aF ?aO ?aB ?aS ?aL ?_; (case aP => exact k69_mkM _ _ _ (⟨((rd_T69 l0 x14_1).f0), ((rd_T69 l0 x14_1).f1)⟩ : S69)); (case aB => exact (by repeat (first | (with_reducible first | exact HB.out | apply below_alloc | apply pw_below_drewN | apply below_drew1 | refine below_set ?_ GE110.out | refine below_set ?_ GE115.out) | exact HB.out))); (case aF => exact (fun k_ hk => ⟨Kd.freshB (g := gb110) (o := .cells #[.string a1_0, .string a1_1] 69 (0, 0)) (by (with_reducible repeat (first | refine blk_drewN ?_ _ | refine blk_drew ?_ | refine blk_alloc ?_ _)); exact BK110.out) k_ hk, Kd.freshB (g := gb115) (o := .cells #[.string ((rd_T69 l0 x14_1).f0), .string ((rd_T69 l0 x14_1).f1)] 69 (0, 0)) (by (with_reducible repeat (first | refine blk_drewN ?_ _ | refine blk_drew ?_ | refine blk_alloc ?_ _)); exact BK115.out) k_ hk⟩)); (case aO => exact (by (with_reducible repeat (first | apply Kd.R_alloc | apply Kd.R_drewN | apply Kd.R_drew)); exact HO118.out)); (case aS => exact (below_size (by repeat (first | (with_reducible first | exact HB.out | apply below_alloc | apply pw_below_drewN | apply below_drew1 | refine below_set ?_ GE110.out | refine below_set ?_ GE115.out) | exact HB.out)))); (case aL => have := LMc24.out; omega); intro v120 w30 ho hb hg hat; rw [← Ny119.out] at ho; have n0_ := Aside0.mk (blk_grown (g := gb110) (o := .cells #[.string a1_0, .string a1_1] 69 (0, 0)) (by (with_reducible repeat (first | refine blk_drewN ?_ _ | refine blk_drew ?_ | refine blk_alloc ?_ _)); exact BK110.out) hg (Kd.R_away HO118.out (fun _ hk => hk.1))); have n1_ := Aside0.mk (blk_grown (g := gb115) (o := .cells #[.string ((rd_T69 l0 x14_1).f0), .string ((rd_T69 l0 x14_1).f1)] 69 (0, 0)) (by (with_reducible repeat (first | refine blk_drewN ?_ _ | refine blk_drew ?_ | refine blk_alloc ?_ _)); exact BK115.out) hg (Kd.R_away HO118.out (fun _ hk => hk.2))); have n2_ := Aside0.mk (hb); have n3_ := Aside0.mk (ho); clear BK110; clear BK115; clear HB; clear HO118; have BK110 := n0_; have BK115 := n1_; have HB := n2_; have HO121 := n3_; clear n0_ n1_ n2_ n3_; clear ho hb hg hat))
                        go_roundg kj7
                        case measure => have := HK1.out; have := HJ7.out; omega
                        case rel => exact ⟨(y119), (true), (wrap64 (x14_1 + 1)), (by first | rfl | (simp; done) | (simp [*]; done)), (by first | rfl | (simp; done) | (simp [*]; done)), H', ⟨by have := HK1.out; have := HJ7.out; omega⟩, ⟨by (with_reducible repeat (first | apply Kd.R_alloc | apply Kd.R_drewN | apply Kd.R_drew)); exact Kd.R_mono HO121.out (fun _ hk => hk.1)⟩, ⟨by (with_reducible repeat (first | refine blk_drewN ?_ _ | refine blk_drew ?_ | refine blk_alloc ?_ _)); exact BK110.out⟩, ⟨by repeat (first | (with_reducible first | exact HB.out | apply below_alloc | apply pw_below_drewN | apply below_drew1 | refine below_set ?_ GE110.out | refine below_set ?_ GE115.out) | exact HB.out)⟩⟩
                      · rw [if_neg c24] at H
                        exact absurd H (by simp)
                  · rw [if_neg c17] at H
                    exact absurd H (by simp)
                · replace c16 := Bool.eq_false_iff.mpr c16
                  subst c16
                  have H1 : (if ((rd_T69 l0 x14_1).f0).toList = a1_0.toList then (bagnallref_rowsSet.l0 kj7 x5_1 x6_1 l0 (l0.length : Int) (wrap64 (x14_1 + 1)) a1_0 a1_1) else (if x5_1.length < 4398046511104 then (bagnallref_rowsSet.l0 kj7 (x5_1 ++ [(⟨((rd_T69 l0 x14_1).f0), ((rd_T69 l0 x14_1).f1)⟩ : S69)]) x6_1 l0 (l0.length : Int) (wrap64 (x14_1 + 1)) a1_0 a1_1) else (none))) = some r := by rw [if_neg (show ¬ (false = true) by decide)] at H; exact H
                  clear H
                  have H := H1
                  clear H1
                  by_cases c31 : ((rd_T69 l0 x14_1).f0).toList = a1_0.toList
                  · rw [if_pos c31] at H
                    have c31b0 : (((rd_T69 l0 x14_1).f0).toList == a1_0.toList) = true := beq_iff_eq.mpr c31
                    have c31b1 : (((rd_T69 l0 x14_1).f0).toList != a1_0.toList) = false := bne_eq_false_iff_eq.mpr c31
                    clear c31
                    have H' := Aside0.mk H
                    clear H
                    have hnb32 := NB115_110.out
                    have hnc32 := NB110_115.out
                    have hcz33_0 : wc.cell? ⟨gb115, 0, none⟩ = some (.string ((rd_T69 l0 x14_1).f0)) := (blk_cell BK115.out 0).trans rfl
                    have hcz33_1 : wc.cell? ⟨gb115, 1, none⟩ = some (.string ((rd_T69 l0 x14_1).f1)) := (blk_cell BK115.out 1).trans rfl
                    have hfz33_0 := blk_frozen BK115.out 0
                    have hfz33_1 := blk_frozen BK115.out 1
                    have hcz34_0 : wc.cell? ⟨gb110, 0, none⟩ = some (.string a1_0) := (blk_cell BK110.out 0).trans rfl
                    have hcz34_1 : wc.cell? ⟨gb110, 1, none⟩ = some (.string a1_1) := (blk_cell BK110.out 1).trans rfl
                    have hfz34_0 := blk_frozen BK110.out 0
                    have hfz34_1 := blk_frozen BK110.out 1
                    go_wp2
                    go_roundg kj7
                    case measure => have := HK1.out; have := HJ7.out; omega
                    case rel => exact ⟨(x5_1), (x6_1), (wrap64 (x14_1 + 1)), (by first | rfl | (simp; done) | (simp [*]; done)), (by first | rfl | (simp; done) | (simp [*]; done)), H', ⟨by have := HK1.out; have := HJ7.out; omega⟩, ⟨by (with_reducible repeat (first | apply Kd.R_alloc | apply Kd.R_drewN | apply Kd.R_drew)); exact Kd.R_mono HO_5.out (fun _ hk => hk.1)⟩, ⟨by (with_reducible repeat (first | refine blk_drewN ?_ _ | refine blk_drew ?_ | refine blk_alloc ?_ _)); exact BK110.out⟩, ⟨by repeat (first | (with_reducible first | exact HB.out | apply below_alloc | apply pw_below_drewN | apply below_drew1 | refine below_set ?_ GE110.out | refine below_set ?_ GE115.out) | exact HB.out)⟩⟩
                  · rw [if_neg c31] at H
                    have c31b0 : (((rd_T69 l0 x14_1).f0).toList == a1_0.toList) = false := beq_eq_false_iff_ne.mpr c31
                    have c31b1 : (((rd_T69 l0 x14_1).f0).toList != a1_0.toList) = true := bne_iff_ne.mpr c31
                    by_cases c35 : x5_1.length < 4398046511104
                    · rw [if_pos c35] at H
                      have LMc35 := Aside0.mk c35
                      clear c35
                      obtain ⟨y122, hy122⟩ : ∃ y_ : List (S69), y_ = (x5_1 ++ [(⟨((rd_T69 l0 x14_1).f0), ((rd_T69 l0 x14_1).f1)⟩ : S69)]) := ⟨_, rfl⟩
                      replace H : (bagnallref_rowsSet.l0 kj7 y122 x6_1 l0 (l0.length : Int) (wrap64 (x14_1 + 1)) a1_0 a1_1) = some r := by first | (rw [hy122]; with_reducible exact H) | (have H2_ := (Option.bind_some _ _).symm.trans H; rw [hy122]; with_reducible exact H2_) | (have H2_ := (Option.bind_some _ _).symm.trans H; with_reducible exact H2_) | with_reducible exact H | (rw [hy122]; exact H) | exact H
                      have Ny122 := Aside0.mk hy122
                      clear hy122
                      have H' := Aside0.mk H
                      clear H
                      have hnb36 := NB115_110.out
                      have hnc36 := NB110_115.out
                      have hcz37_0 : wc.cell? ⟨gb115, 0, none⟩ = some (.string ((rd_T69 l0 x14_1).f0)) := (blk_cell BK115.out 0).trans rfl
                      have hcz37_1 : wc.cell? ⟨gb115, 1, none⟩ = some (.string ((rd_T69 l0 x14_1).f1)) := (blk_cell BK115.out 1).trans rfl
                      have hfz37_0 := blk_frozen BK115.out 0
                      have hfz37_1 := blk_frozen BK115.out 1
                      have hcz38_0 : wc.cell? ⟨gb110, 0, none⟩ = some (.string a1_0) := (blk_cell BK110.out 0).trans rfl
                      have hcz38_1 : wc.cell? ⟨gb110, 1, none⟩ = some (.string a1_1) := (blk_cell BK110.out 1).trans rfl
                      have hfz38_0 := blk_frozen BK110.out 0
                      have hfz38_1 := blk_frozen BK110.out 1
                      go_wp2_with (first | ((with_reducible refine gate_builtin (b := .append) (xs := #[.tmp 36, .tmp 38]) rfl ?_); at_builtin; refine Kd.R_append k69 (w0 := w) w.heap.size rfl (.tmp 36) (.tmp 38) 24 69 (.agg #[(.string ⟨#[]⟩), (.string ⟨#[]⟩)]) 32 rfl Try.underlying24 info69 rfl (by decide) (by omega) u5 x5_1 (⟨((rd_T69 l0 x14_1).f0), ((rd_T69 l0 x14_1).f1)⟩ : S69) [.string ((rd_T69 l0 x14_1).f0), .string ((rd_T69 l0 x14_1).f1)] (fun k_ => k_ ≠ gb110 ∧ k_ ≠ gb115) (fun _ => False) rfl rfl ?aP (fun _ hk => hk.elim) ?aF ?aO ?aB ?aS ?aL ?_; (case aP => exact k69_mkM _ _ _ (⟨((rd_T69 l0 x14_1).f0), ((rd_T69 l0 x14_1).f1)⟩ : S69)); (case aB => exact (by repeat (first | (with_reducible first | exact HB.out | apply below_alloc | apply pw_below_drewN | apply below_drew1 | refine below_set ?_ GE110.out | refine below_set ?_ GE115.out) | exact HB.out))); (case aF => exact (fun k_ hk => ⟨Kd.freshB (g := gb110) (o := .cells #[.string a1_0, .string a1_1] 69 (0, 0)) (by (with_reducible repeat (first | refine blk_drewN ?_ _ | refine blk_drew ?_ | refine blk_alloc ?_ _)); exact BK110.out) k_ hk, Kd.freshB (g := gb115) (o := .cells #[.string ((rd_T69 l0 x14_1).f0), .string ((rd_T69 l0 x14_1).f1)] 69 (0, 0)) (by (with_reducible repeat (first | refine blk_drewN ?_ _ | refine blk_drew ?_ | refine blk_alloc ?_ _)); exact BK115.out) k_ hk⟩)); (case aO => exact (by (with_reducible repeat (first | apply Kd.R_alloc | apply Kd.R_drewN | apply Kd.R_drew)); exact HO_5.out)); (case aS => exact (below_size (by repeat (first | (with_reducible first | exact HB.out | apply below_alloc | apply pw_below_drewN | apply below_drew1 | refine below_set ?_ GE110.out | refine below_set ?_ GE115.out) | exact HB.out)))); (case aL => have := LMc35.out; omega); intro v123 w39 ho hb hg hat; rw [← Ny122.out] at ho; have n0_ := Aside0.mk (blk_grown (g := gb110) (o := .cells #[.string a1_0, .string a1_1] 69 (0, 0)) (by (with_reducible repeat (first | refine blk_drewN ?_ _ | refine blk_drew ?_ | refine blk_alloc ?_ _)); exact BK110.out) hg (Kd.R_away HO_5.out (fun _ hk => hk.1))); have n1_ := Aside0.mk (blk_grown (g := gb115) (o := .cells #[.string ((rd_T69 l0 x14_1).f0), .string ((rd_T69 l0 x14_1).f1)] 69 (0, 0)) (by (with_reducible repeat (first | refine blk_drewN ?_ _ | refine blk_drew ?_ | refine blk_alloc ?_ _)); exact BK115.out) hg (Kd.R_away HO_5.out (fun _ hk => hk.2))); have n2_ := Aside0.mk (hb); have n3_ := Aside0.mk (ho); clear BK110; clear BK115; clear HB; clear HO_5; have BK110 := n0_; have BK115 := n1_; have HB := n2_; have HO124 := n3_; clear n0_ n1_ n2_ n3_; clear ho hb hg hat))
                      go_roundg kj7
                      case measure => have := HK1.out; have := HJ7.out; omega
                      case rel => exact ⟨(y122), (x6_1), (wrap64 (x14_1 + 1)), (by first | rfl | (simp; done) | (simp [*]; done)), (by first | rfl | (simp; done) | (simp [*]; done)), H', ⟨by have := HK1.out; have := HJ7.out; omega⟩, ⟨by (with_reducible repeat (first | apply Kd.R_alloc | apply Kd.R_drewN | apply Kd.R_drew)); exact Kd.R_mono HO124.out (fun _ hk => hk.1)⟩, ⟨by (with_reducible repeat (first | refine blk_drewN ?_ _ | refine blk_drew ?_ | refine blk_alloc ?_ _)); exact BK110.out⟩, ⟨by repeat (first | (with_reducible first | exact HB.out | apply below_alloc | apply pw_below_drewN | apply below_drew1 | refine below_set ?_ GE110.out | refine below_set ?_ GE115.out) | exact HB.out)⟩⟩
                    · rw [if_neg c35] at H
                      exact absurd H (by simp)
          · rw [if_neg c7] at H
            exact absurd H (by simp)
        · rw [if_neg c6] at H
          exact absurd H (by simp)
      · rw [if_neg c5] at H
        have c5b0 : decide (x14_1 < (l0.length : Int)) = false := decide_eq_false c5
        clear c5
        by_cases c40 : x6_1 = true
        · subst c40
          have H1 : (some x5_1) = some r := by rw [if_pos rfl] at H; exact H
          clear H
          have H := H1
          clear H1
          obtain rfl := Option.some.inj H
          go_wp2
          go_ret
          exact ⟨_, by first | rfl | (simp [errW_none, errW_some] <;> rfl) | (simp [*, errW_none, errW_some] <;> rfl), by (with_reducible repeat (first | apply Kd.R_alloc | apply Kd.R_drewN | apply Kd.R_drew)); exact Kd.R_mono HO_5.out (fun _ hk => trivial), by repeat (first | (with_reducible first | exact HB.out | apply below_alloc | apply pw_below_drewN | apply below_drew1 | refine below_set ?_ GE110.out) | exact HB.out)⟩
        · replace c40 := Bool.eq_false_iff.mpr c40
          subst c40
          have H1 : (if x5_1.length < 4398046511104 then (some (x5_1 ++ [(⟨a1_0, a1_1⟩ : S69)])) else (none)) = some r := by rw [if_neg (show ¬ (false = true) by decide)] at H; exact H
          clear H
          have H := H1
          clear H1
          by_cases c41 : x5_1.length < 4398046511104
          · rw [if_pos c41] at H
            have LMc41 := Aside0.mk c41
            clear c41
            obtain ⟨y111, hy111⟩ : ∃ y_ : List (S69), y_ = (x5_1 ++ [(⟨a1_0, a1_1⟩ : S69)]) := ⟨_, rfl⟩
            replace H : (some y111) = some r := by first | (rw [hy111]; with_reducible exact H) | (have H2_ := (Option.bind_some _ _).symm.trans H; rw [hy111]; with_reducible exact H2_) | (have H2_ := (Option.bind_some _ _).symm.trans H; with_reducible exact H2_) | with_reducible exact H | (rw [hy111]; exact H) | exact H
            have Ny111 := Aside0.mk hy111
            clear hy111
            obtain rfl := Option.some.inj H
            have hcz42_0 : wr.cell? ⟨gb110, 0, none⟩ = some (.string a1_0) := (blk_cell BK110.out 0).trans rfl
            have hcz42_1 : wr.cell? ⟨gb110, 1, none⟩ = some (.string a1_1) := (blk_cell BK110.out 1).trans rfl
            have hfz42_0 := blk_frozen BK110.out 0
            have hfz42_1 := blk_frozen BK110.out 1
            go_wp2_with (first | ((with_reducible refine gate_builtin (b := .append) (xs := #[.tmp 43, .tmp 45]) rfl ?_); at_builtin; refine Kd.R_append k69 (w0 := w) w.heap.size rfl (.tmp 43) (.tmp 45) 24 69 (.agg #[(.string ⟨#[]⟩), (.string ⟨#[]⟩)]) 32 rfl Try.underlying24 info69 rfl (by decide) (by omega) u5 x5_1 (⟨a1_0, a1_1⟩ : S69) [.string a1_0, .string a1_1] (fun k_ => k_ ≠ gb110) (fun _ => False) rfl rfl ?aP (fun _ hk => hk.elim) ?aF ?aO ?aB ?aS ?aL ?_; (case aP => exact k69_mkM _ _ _ (⟨a1_0, a1_1⟩ : S69)); (case aB => exact (by repeat (first | (with_reducible first | exact HB.out | apply below_alloc | apply pw_below_drewN | apply below_drew1 | refine below_set ?_ GE110.out) | exact HB.out))); (case aF => exact (fun k_ hk => Kd.freshB (g := gb110) (o := .cells #[.string a1_0, .string a1_1] 69 (0, 0)) (by (with_reducible repeat (first | refine blk_drewN ?_ _ | refine blk_drew ?_ | refine blk_alloc ?_ _)); exact BK110.out) k_ hk)); (case aO => exact (by (with_reducible repeat (first | apply Kd.R_alloc | apply Kd.R_drewN | apply Kd.R_drew)); exact HO_5.out)); (case aS => exact (below_size (by repeat (first | (with_reducible first | exact HB.out | apply below_alloc | apply pw_below_drewN | apply below_drew1 | refine below_set ?_ GE110.out) | exact HB.out)))); (case aL => have := LMc41.out; omega); intro v112 w43 ho hb hg hat; rw [← Ny111.out] at ho; have n0_ := Aside0.mk (blk_grown (g := gb110) (o := .cells #[.string a1_0, .string a1_1] 69 (0, 0)) (by (with_reducible repeat (first | refine blk_drewN ?_ _ | refine blk_drew ?_ | refine blk_alloc ?_ _)); exact BK110.out) hg (Kd.R_away HO_5.out (fun _ hk => hk))); have n1_ := Aside0.mk (hb); have n2_ := Aside0.mk (ho); clear BK110; clear HB; clear HO_5; have BK110 := n0_; have HB := n1_; have HO113 := n2_; clear n0_ n1_ n2_; clear ho hb hg hat))
            go_ret
            exact ⟨_, by first | rfl | (simp [errW_none, errW_some] <;> rfl) | (simp [*, errW_none, errW_some] <;> rfl), by (with_reducible repeat (first | apply Kd.R_alloc | apply Kd.R_drewN | apply Kd.R_drew)); exact Kd.R_mono HO113.out (fun _ hk => trivial), by repeat (first | (with_reducible first | exact HB.out | apply below_alloc | apply pw_below_drewN | apply below_drew1 | refine below_set ?_ GE110.out) | exact HB.out)⟩
          · rw [if_neg c41] at H
            exact absurd H (by simp)

/-! ### bagnallref_rowsChanges: function 50 -/
def bagnallref_rowsChanges.l0 : Nat → List (S69) → List (S69) → Int → Int → Option ((List (S69)) × Int)
  | 0, _, _, _, _ => none
  | k + 1, x6, x13, x14, x15 => if x15 < x14 then (if 0 ≤ x15 then (if x15 < (x13.length : Int) then (if (((rd_T69 x13 x15).f0).size : Int) < 1 then (some (([] : List (S69)), 1)) else (if (((rd_T69 x13 x15).f0).size : Int) > 20 then (some (([] : List (S69)), 1)) else (if (((rd_T69 x13 x15).f1).size : Int) > 20 then (some (([] : List (S69)), 1)) else ((bagnallref_rowsSet.f k x6 ((rd_T69 x13 x15).f0) ((rd_T69 x13 x15).f1)).bind fun t127 => (bagnallref_rowsChanges.l0 k t127 x13 x14 (wrap64 (x15 + 1))))))) else (none)) else (none)) else (if (x6.length : Int) > 40 then (some (([] : List (S69)), 10)) else (some (x6, 0)))
def bagnallref_rowsChanges.f (k : Nat) (l0 : List (S69)) (l1 : List (S69)) : Option ((List (S69)) × Int) := if (l1.length : Int) > 60 then (some (([] : List (S69)), 1)) else (bagnallref_rowsChanges.l0 k l0 l1 (l1.length : Int) 0)
theorem bagnallref_rowsChanges.mono_l : ∀ k, (∀ y0 y1 y2 y3, LeO (bagnallref_rowsChanges.l0 k y0 y1 y2 y3) (bagnallref_rowsChanges.l0 (k + 1) y0 y1 y2 y3))
  | 0 => fun _ _ _ _ r h => by simp [bagnallref_rowsChanges.l0] at h
  | k + 1 => by
    have ih0 := bagnallref_rowsChanges.mono_l k
    · intro y0 y1 y2 y3
      unfold bagnallref_rowsChanges.l0
      repeat' first
      | (with_reducible exact ih0 _ _ _ _)
      | (with_reducible exact bagnallref_rowsSet.mono _ _ _ _)
      | (with_reducible exact LeO.refl _)
      | (with_reducible exact LeO.none _)
      | (with_reducible refine LeO.ite ?_ ?_)
      | (with_reducible refine LeO.bind ?_ (fun _ => ?_))
      | exact ih0 _ _ _ _
      | exact bagnallref_rowsSet.mono _ _ _ _
      | exact LeO.none _
      | refine LeO.ite ?_ ?_
      | refine LeO.bind ?_ (fun _ => ?_)
theorem bagnallref_rowsChanges.mono : ∀ a0 a1 k, LeO (bagnallref_rowsChanges.f k a0 a1) (bagnallref_rowsChanges.f (k + 1) a0 a1) := by
  intro a0 a1 k
  have ih0 := bagnallref_rowsChanges.mono_l k
  unfold bagnallref_rowsChanges.f
  repeat' first
      | (with_reducible exact ih0 _ _ _ _)
      | (with_reducible exact bagnallref_rowsSet.mono _ _ _ _)
      | (with_reducible exact LeO.refl _)
      | (with_reducible exact LeO.none _)
      | (with_reducible refine LeO.ite ?_ ?_)
      | (with_reducible refine LeO.bind ?_ (fun _ => ?_))
      | exact ih0 _ _ _ _
      | exact bagnallref_rowsSet.mono _ _ _ _
      | exact LeO.none _
      | refine LeO.ite ?_ ?_
      | refine LeO.bind ?_ (fun _ => ?_)
set_option maxHeartbeats 8000000 in
set_option maxRecDepth 100000 in
theorem bagnallref_rowsChanges.calls (k : Nat) (P0_ : Nat → Prop) (A0 : Option Addr) (c0 : Nat) (l0 : List (S69)) (A1 : Option Addr) (c1 : Nat) (l1 : List (S69)) (r1 : List (S69)) (r2 : Int) (w : World) (hs0 : Kd.V k69 69 w w.heap.size (fun k_ => P0_ k_) (.slice A0 l0.length c0) l0) (hr1 : Kd.C k69 w A1 l1.length l1) (hc1 : l1.length ≤ c1) (h : bagnallref_rowsChanges.f k l0 l1 = some (r1, r2)) :
    Calls Try.prog 50 #[.slice A0 l0.length c0, .slice A1 l1.length c1] w fun e w' => ∃ v0_ : Value, e = .returned (.tuple #[v0_, .int .i64 r2]) ∧ Kd.V k69 69 w' w.heap.size (fun k_ => (P0_ k_ ∨ w.heap.size ≤ k_)) v0_ r1 ∧ Below w.heap.size w w' := by
  have hu69 := Try.underlying69
  have HO0 := Aside0.mk (show Kd.V k69 69 w w.heap.size (fun k_ => (P0_ k_ ∨ w.heap.size ≤ k_)) (.slice A0 l0.length c0) l0 from Kd.V_mono hs0 (fun k_ hk => .inl hk))
  have HR1 := Aside0.mk hr1
  have HC1 := Aside0.mk hc1
  clear hr1 hc1
  have HB := Aside0.mk (Below.refl w.heap.size w)
  have H : (if (l1.length : Int) > 60 then (some (([] : List (S69)), 1)) else (bagnallref_rowsChanges.l0 k l0 l1 (l1.length : Int) 0)) = some (r1, r2) := h
  clear h
  by_cases c3 : (l1.length : Int) > 60
  · rw [if_pos c3] at H
    have c3b0 : decide (60 < (l1.length : Int)) = true := decide_eq_true c3
    have c3b1 : decide (60 < l1.length) = true := decide_eq_true (by omega)
    clear c3
    simp only [Option.some.injEq, Prod.mk.injEq] at H
    obtain ⟨rfl, rfl⟩ := H
    go_enter Try.func50, Try.ntmps50
    go_wp2
    go_ret2
    exact ⟨_, by first | rfl | (simp [errW_none, errW_some] <;> rfl) | (simp [*, errW_none, errW_some] <;> rfl), (by first | exact Kd.V_nil _ _ _ _ _ | exact Kd.V_mono (Kd.R_V (by first | exact Kd.R_nil _ _ _ _ _ | exact Kd.N_nil _ _ _ _ _ | exact Kd.V_nil _ _ _ _ _ | exact Kd.Q_nil _ _ _ _ _ | exact Kd.S_nil _ _ _ _ _)) (fun k_ hk => by first | exact ⟨(.inr (hk.1)), hk.2⟩ | exact (.inr (hk)))), by repeat (first | (with_reducible first | exact HB.out | apply below_alloc | apply pw_below_drewN | apply below_drew1) | exact HB.out)⟩
  · rw [if_neg c3] at H
    have c3b0 : decide (60 < (l1.length : Int)) = false := decide_eq_false c3
    have c3b1 : decide (60 < l1.length) = false := decide_eq_false (by omega)
    clear c3
    have H' := Aside0.mk H
    clear H
    go_enter Try.func50, Try.ntmps50
    go_wp2
    go_loopg [6, 15] k (fun kq v6 v15 w' => ∃ (x6_1 : List (S69)) (x15_1 : Int), v15 = .int .i64 x15_1 ∧ Aside0 (bagnallref_rowsChanges.l0 kq x6_1 l1 (l1.length : Int) x15_1 = some (r1, r2)) ∧ Aside0 (kq ≤ k) ∧ Aside0 (Kd.V k69 69 w' w.heap.size (fun k_ => (P0_ k_ ∨ w.heap.size ≤ k_)) v6 x6_1) ∧ Aside0 (Below w.heap.size w w'))
    case atStart => exact ⟨(l0), (0), (by first | rfl | (simp; done) | (simp [*]; done)), H', ⟨Nat.le_refl _⟩, ⟨by (with_reducible repeat (first | apply Kd.V_alloc | apply Kd.V_drewN | apply Kd.V_drew)); exact HO0.out⟩, ⟨by repeat (first | (with_reducible first | exact HB.out | apply below_alloc | apply pw_below_drewN | apply below_drew1) | exact HB.out)⟩⟩
    case round =>
      clear H'
      try clear c1
      try clear p2
      try clear c3
      try clear c3b0
      try clear c3b1
      obtain ⟨x6_1, x15_1, rfl, HA, HK1, HO_6, HB⟩ := hrel
      cases gk with
      | zero => exact absurd HA.out (by simp [bagnallref_rowsChanges.l0])
      | succ k1 =>
        have H := HA.out
        clear HA
        simp only [bagnallref_rowsChanges.l0] at H
        by_cases c4 : x15_1 < (l1.length : Int)
        · rw [if_pos c4] at H
          have c4b0 : decide (x15_1 < (l1.length : Int)) = true := decide_eq_true c4
          clear c4
          by_cases c5 : 0 ≤ x15_1
          · rw [if_pos c5] at H
            have c5b0 : decide (0 ≤ x15_1) = true := decide_eq_true c5
            clear c5
            by_cases c6 : x15_1 < (l1.length : Int)
            · rw [if_pos c6] at H
              have c6b0 : decide (x15_1 < (l1.length : Int)) = true := decide_eq_true c6
              clear c6
              by_cases c7 : (((rd_T69 l1 x15_1).f0).size : Int) < 1
              · rw [if_pos c7] at H
                have c7b0 : decide ((((rd_T69 l1 x15_1).f0).size : Int) < 1) = true := decide_eq_true c7
                have c7b1 : decide (((rd_T69 l1 x15_1).f0).size < 1) = true := decide_eq_true (by omega)
                clear c7
                simp only [Option.some.injEq, Prod.mk.injEq] at H
                obtain ⟨rfl, rfl⟩ := H
                have p125 : 0 ≤ (x15_1 : Int) := of_decide_eq_true (by first | (with_reducible assumption) | assumption)
                have q125 : x15_1 < (l1.length : Int) := of_decide_eq_true (by first | (with_reducible assumption) | assumption)
                obtain ⟨ad125, e125, hx125_0, hx125_1⟩ := at_T69 HR1.out x15_1 p125 q125
                cases e125
                replace hx125_0 := (HB.out.cell (World.block_lt_of_cell? w _ hx125_0)).trans hx125_0
                replace hx125_1 := (HB.out.cell (World.block_lt_of_cell? w _ hx125_1)).trans hx125_1
                replace p125 := eq_true p125
                replace q125 := eq_true q125
                go_wp2_with (first | ((with_reducible refine gate_dst (N := 8) rfl ?_); (try (refine gate_guard (by rfl) ?_; dsimp only)); refine box_event ?hg (N := 8) ?hd (cs := #[.string (⟨#[]⟩ : ByteArray), .string (⟨#[]⟩ : ByteArray)]) (t := 69) ?hr ?_; (case hd => rfl); (case hg => rfl); (case hr => first | (go_simp; done) | (go_simp; rfl)); intro gb126 hg w8 hbox hb; have n0_ := Aside0.mk (Kd.V_below (Kd.V_elderB (by (with_reducible repeat (first | apply Kd.V_alloc | apply Kd.V_drewN | apply Kd.V_drew)); exact HO_6.out) gb126 (Nat.le_of_eq hg.symm)) hb); have n1_ := Aside0.mk (below_step (by repeat (first | (with_reducible first | exact HB.out | apply below_alloc | apply pw_below_drewN | apply below_drew1) | exact HB.out)) hb); have n2_ := Aside0.mk (hbox); have n3_ := Aside0.mk ((by rw [hg]; exact (below_size (by repeat (first | (with_reducible first | exact HB.out | apply below_alloc | apply pw_below_drewN | apply below_drew1) | exact HB.out))) : w.heap.size ≤ gb126)); have n4_ := Aside0.mk ((by rw [hg]; exact (below_size (by repeat (first | (with_reducible first | exact HB.out | apply below_alloc | apply pw_below_drewN | apply below_drew1) | exact HB.out))) : w.heap.size ≤ gb126)); clear HO_6; clear HB; have HO_6 := n0_; have HB := n1_; have BK126 := n2_; have GW126 := n3_; have GE126 := n4_; clear n0_ n1_ n2_ n3_ n4_; clear hb hbox hg; have hcz9_0 : w8.cell? ⟨gb126, 0, none⟩ = some (.string (⟨#[]⟩ : ByteArray)) := (blk_cell BK126.out 0).trans rfl; have hcz9_1 : w8.cell? ⟨gb126, 1, none⟩ = some (.string (⟨#[]⟩ : ByteArray)) := (blk_cell BK126.out 1).trans rfl; have hfz9_0 := blk_frozen BK126.out 0; have hfz9_1 := blk_frozen BK126.out 1))
                go_ret2
                exact ⟨_, by first | rfl | (simp [errW_none, errW_some] <;> rfl) | (simp [*, errW_none, errW_some] <;> rfl), (by first | exact Kd.V_nil _ _ _ _ _ | exact Kd.V_mono (Kd.R_V (by first | exact Kd.R_nil _ _ _ _ _ | exact Kd.N_nil _ _ _ _ _ | exact Kd.V_nil _ _ _ _ _ | exact Kd.Q_nil _ _ _ _ _ | exact Kd.S_nil _ _ _ _ _)) (fun k_ hk => by first | exact ⟨(.inr (hk.1)), hk.2⟩ | exact (.inr (hk)))), by repeat (first | (with_reducible first | exact HB.out | apply below_alloc | apply pw_below_drewN | apply below_drew1 | refine below_set ?_ GE126.out) | exact HB.out)⟩
              · rw [if_neg c7] at H
                have c7b0 : decide ((((rd_T69 l1 x15_1).f0).size : Int) < 1) = false := decide_eq_false c7
                have c7b1 : decide (((rd_T69 l1 x15_1).f0).size < 1) = false := decide_eq_false (by omega)
                clear c7
                by_cases c10 : (((rd_T69 l1 x15_1).f0).size : Int) > 20
                · rw [if_pos c10] at H
                  have c10b0 : decide (20 < (((rd_T69 l1 x15_1).f0).size : Int)) = true := decide_eq_true c10
                  have c10b1 : decide (20 < ((rd_T69 l1 x15_1).f0).size) = true := decide_eq_true (by omega)
                  clear c10
                  simp only [Option.some.injEq, Prod.mk.injEq] at H
                  obtain ⟨rfl, rfl⟩ := H
                  have p125 : 0 ≤ (x15_1 : Int) := of_decide_eq_true (by first | (with_reducible assumption) | assumption)
                  have q125 : x15_1 < (l1.length : Int) := of_decide_eq_true (by first | (with_reducible assumption) | assumption)
                  obtain ⟨ad125, e125, hx125_0, hx125_1⟩ := at_T69 HR1.out x15_1 p125 q125
                  cases e125
                  replace hx125_0 := (HB.out.cell (World.block_lt_of_cell? w _ hx125_0)).trans hx125_0
                  replace hx125_1 := (HB.out.cell (World.block_lt_of_cell? w _ hx125_1)).trans hx125_1
                  replace p125 := eq_true p125
                  replace q125 := eq_true q125
                  go_wp2_with (first | ((with_reducible refine gate_dst (N := 8) rfl ?_); (try (refine gate_guard (by rfl) ?_; dsimp only)); refine box_event ?hg (N := 8) ?hd (cs := #[.string (⟨#[]⟩ : ByteArray), .string (⟨#[]⟩ : ByteArray)]) (t := 69) ?hr ?_; (case hd => rfl); (case hg => rfl); (case hr => first | (go_simp; done) | (go_simp; rfl)); intro gb126 hg w11 hbox hb; have n0_ := Aside0.mk (Kd.V_below (Kd.V_elderB (by (with_reducible repeat (first | apply Kd.V_alloc | apply Kd.V_drewN | apply Kd.V_drew)); exact HO_6.out) gb126 (Nat.le_of_eq hg.symm)) hb); have n1_ := Aside0.mk (below_step (by repeat (first | (with_reducible first | exact HB.out | apply below_alloc | apply pw_below_drewN | apply below_drew1) | exact HB.out)) hb); have n2_ := Aside0.mk (hbox); have n3_ := Aside0.mk ((by rw [hg]; exact (below_size (by repeat (first | (with_reducible first | exact HB.out | apply below_alloc | apply pw_below_drewN | apply below_drew1) | exact HB.out))) : w.heap.size ≤ gb126)); have n4_ := Aside0.mk ((by rw [hg]; exact (below_size (by repeat (first | (with_reducible first | exact HB.out | apply below_alloc | apply pw_below_drewN | apply below_drew1) | exact HB.out))) : w.heap.size ≤ gb126)); clear HO_6; clear HB; have HO_6 := n0_; have HB := n1_; have BK126 := n2_; have GW126 := n3_; have GE126 := n4_; clear n0_ n1_ n2_ n3_ n4_; clear hb hbox hg; have hcz12_0 : w11.cell? ⟨gb126, 0, none⟩ = some (.string (⟨#[]⟩ : ByteArray)) := (blk_cell BK126.out 0).trans rfl; have hcz12_1 : w11.cell? ⟨gb126, 1, none⟩ = some (.string (⟨#[]⟩ : ByteArray)) := (blk_cell BK126.out 1).trans rfl; have hfz12_0 := blk_frozen BK126.out 0; have hfz12_1 := blk_frozen BK126.out 1))
                  go_ret2
                  exact ⟨_, by first | rfl | (simp [errW_none, errW_some] <;> rfl) | (simp [*, errW_none, errW_some] <;> rfl), (by first | exact Kd.V_nil _ _ _ _ _ | exact Kd.V_mono (Kd.R_V (by first | exact Kd.R_nil _ _ _ _ _ | exact Kd.N_nil _ _ _ _ _ | exact Kd.V_nil _ _ _ _ _ | exact Kd.Q_nil _ _ _ _ _ | exact Kd.S_nil _ _ _ _ _)) (fun k_ hk => by first | exact ⟨(.inr (hk.1)), hk.2⟩ | exact (.inr (hk)))), by repeat (first | (with_reducible first | exact HB.out | apply below_alloc | apply pw_below_drewN | apply below_drew1 | refine below_set ?_ GE126.out) | exact HB.out)⟩
                · rw [if_neg c10] at H
                  have c10b0 : decide (20 < (((rd_T69 l1 x15_1).f0).size : Int)) = false := decide_eq_false c10
                  have c10b1 : decide (20 < ((rd_T69 l1 x15_1).f0).size) = false := decide_eq_false (by omega)
                  clear c10
                  by_cases c13 : (((rd_T69 l1 x15_1).f1).size : Int) > 20
                  · rw [if_pos c13] at H
                    have c13b0 : decide (20 < (((rd_T69 l1 x15_1).f1).size : Int)) = true := decide_eq_true c13
                    have c13b1 : decide (20 < ((rd_T69 l1 x15_1).f1).size) = true := decide_eq_true (by omega)
                    clear c13
                    simp only [Option.some.injEq, Prod.mk.injEq] at H
                    obtain ⟨rfl, rfl⟩ := H
                    have p125 : 0 ≤ (x15_1 : Int) := of_decide_eq_true (by first | (with_reducible assumption) | assumption)
                    have q125 : x15_1 < (l1.length : Int) := of_decide_eq_true (by first | (with_reducible assumption) | assumption)
                    obtain ⟨ad125, e125, hx125_0, hx125_1⟩ := at_T69 HR1.out x15_1 p125 q125
                    cases e125
                    replace hx125_0 := (HB.out.cell (World.block_lt_of_cell? w _ hx125_0)).trans hx125_0
                    replace hx125_1 := (HB.out.cell (World.block_lt_of_cell? w _ hx125_1)).trans hx125_1
                    replace p125 := eq_true p125
                    replace q125 := eq_true q125
                    go_wp2_with (first | ((with_reducible refine gate_dst (N := 8) rfl ?_); (try (refine gate_guard (by rfl) ?_; dsimp only)); refine box_event ?hg (N := 8) ?hd (cs := #[.string (⟨#[]⟩ : ByteArray), .string (⟨#[]⟩ : ByteArray)]) (t := 69) ?hr ?_; (case hd => rfl); (case hg => rfl); (case hr => first | (go_simp; done) | (go_simp; rfl)); intro gb126 hg w14 hbox hb; have n0_ := Aside0.mk (Kd.V_below (Kd.V_elderB (by (with_reducible repeat (first | apply Kd.V_alloc | apply Kd.V_drewN | apply Kd.V_drew)); exact HO_6.out) gb126 (Nat.le_of_eq hg.symm)) hb); have n1_ := Aside0.mk (below_step (by repeat (first | (with_reducible first | exact HB.out | apply below_alloc | apply pw_below_drewN | apply below_drew1) | exact HB.out)) hb); have n2_ := Aside0.mk (hbox); have n3_ := Aside0.mk ((by rw [hg]; exact (below_size (by repeat (first | (with_reducible first | exact HB.out | apply below_alloc | apply pw_below_drewN | apply below_drew1) | exact HB.out))) : w.heap.size ≤ gb126)); have n4_ := Aside0.mk ((by rw [hg]; exact (below_size (by repeat (first | (with_reducible first | exact HB.out | apply below_alloc | apply pw_below_drewN | apply below_drew1) | exact HB.out))) : w.heap.size ≤ gb126)); clear HO_6; clear HB; have HO_6 := n0_; have HB := n1_; have BK126 := n2_; have GW126 := n3_; have GE126 := n4_; clear n0_ n1_ n2_ n3_ n4_; clear hb hbox hg; have hcz15_0 : w14.cell? ⟨gb126, 0, none⟩ = some (.string (⟨#[]⟩ : ByteArray)) := (blk_cell BK126.out 0).trans rfl; have hcz15_1 : w14.cell? ⟨gb126, 1, none⟩ = some (.string (⟨#[]⟩ : ByteArray)) := (blk_cell BK126.out 1).trans rfl; have hfz15_0 := blk_frozen BK126.out 0; have hfz15_1 := blk_frozen BK126.out 1))
                    go_ret2
                    exact ⟨_, by first | rfl | (simp [errW_none, errW_some] <;> rfl) | (simp [*, errW_none, errW_some] <;> rfl), (by first | exact Kd.V_nil _ _ _ _ _ | exact Kd.V_mono (Kd.R_V (by first | exact Kd.R_nil _ _ _ _ _ | exact Kd.N_nil _ _ _ _ _ | exact Kd.V_nil _ _ _ _ _ | exact Kd.Q_nil _ _ _ _ _ | exact Kd.S_nil _ _ _ _ _)) (fun k_ hk => by first | exact ⟨(.inr (hk.1)), hk.2⟩ | exact (.inr (hk)))), by repeat (first | (with_reducible first | exact HB.out | apply below_alloc | apply pw_below_drewN | apply below_drew1 | refine below_set ?_ GE126.out) | exact HB.out)⟩
                  · rw [if_neg c13] at H
                    have c13b0 : decide (20 < (((rd_T69 l1 x15_1).f1).size : Int)) = false := decide_eq_false c13
                    have c13b1 : decide (20 < ((rd_T69 l1 x15_1).f1).size) = false := decide_eq_false (by omega)
                    clear c13
                    replace H := Option.bind_eq_some_iff.mp H
                    obtain ⟨t127, A160, H⟩ := H
                    replace H : (bagnallref_rowsChanges.l0 k1 t127 l1 (l1.length : Int) (wrap64 (x15_1 + 1))) = some (r1, r2) := H
                    have A16 := Aside0.mk A160
                    clear A160
                    have H' := Aside0.mk H
                    clear H
                    have p125 : 0 ≤ (x15_1 : Int) := of_decide_eq_true (by first | (with_reducible assumption) | assumption)
                    have q125 : x15_1 < (l1.length : Int) := of_decide_eq_true (by first | (with_reducible assumption) | assumption)
                    obtain ⟨ad125, e125, hx125_0, hx125_1⟩ := at_T69 HR1.out x15_1 p125 q125
                    cases e125
                    replace hx125_0 := (HB.out.cell (World.block_lt_of_cell? w _ hx125_0)).trans hx125_0
                    replace hx125_1 := (HB.out.cell (World.block_lt_of_cell? w _ hx125_1)).trans hx125_1
                    replace p125 := eq_true p125
                    replace q125 := eq_true q125
                    go_wp2_with (first | ((with_reducible refine gate_dst (N := 8) rfl ?_); (try (refine gate_guard (by rfl) ?_; dsimp only)); refine box_event ?hg (N := 8) ?hd (cs := #[.string (⟨#[]⟩ : ByteArray), .string (⟨#[]⟩ : ByteArray)]) (t := 69) ?hr ?_; (case hd => rfl); (case hg => rfl); (case hr => first | (go_simp; done) | (go_simp; rfl)); intro gb126 hg w17 hbox hb; have n0_ := Aside0.mk (Kd.V_below (Kd.V_elderB (by (with_reducible repeat (first | apply Kd.V_alloc | apply Kd.V_drewN | apply Kd.V_drew)); exact HO_6.out) gb126 (Nat.le_of_eq hg.symm)) hb); have n1_ := Aside0.mk (below_step (by repeat (first | (with_reducible first | exact HB.out | apply below_alloc | apply pw_below_drewN | apply below_drew1) | exact HB.out)) hb); have n2_ := Aside0.mk (hbox); have n3_ := Aside0.mk ((by rw [hg]; exact (below_size (by repeat (first | (with_reducible first | exact HB.out | apply below_alloc | apply pw_below_drewN | apply below_drew1) | exact HB.out))) : w.heap.size ≤ gb126)); have n4_ := Aside0.mk ((by rw [hg]; exact (below_size (by repeat (first | (with_reducible first | exact HB.out | apply below_alloc | apply pw_below_drewN | apply below_drew1) | exact HB.out))) : w.heap.size ≤ gb126)); clear HO_6; clear HB; have HO_6 := n0_; have HB := n1_; have BK126 := n2_; have GW126 := n3_; have GE126 := n4_; clear n0_ n1_ n2_ n3_ n4_; clear hb hbox hg; have hcz18_0 : w17.cell? ⟨gb126, 0, none⟩ = some (.string (⟨#[]⟩ : ByteArray)) := (blk_cell BK126.out 0).trans rfl; have hcz18_1 : w17.cell? ⟨gb126, 1, none⟩ = some (.string (⟨#[]⟩ : ByteArray)) := (blk_cell BK126.out 1).trans rfl; have hfz18_0 := blk_frozen BK126.out 0; have hfz18_1 := blk_frozen BK126.out 1; obtain ⟨Ao19, co19, eo19⟩ := Kd.V_slice HO_6.out; subst eo19) | ((with_reducible refine gate_callee (f := 60) rfl ?_); refine goesL_ (some 37) rfl rfl Try.func60 (by kernel_rfl) rfl #[.slice Ao19 x6_1.length co19, .agg #[.string ((rd_T69 l1 x15_1).f0), .string ((rd_T69 l1 x15_1).f1)]] rfl (by (try simp only [List.map_toArray, List.map_cons, List.map_nil]); first | done | rfl | (simp only [List.length_drop, List.length_take]; rfl)) ?_; (with_reducible refine (bagnallref_rowsSet.calls k1 _ _ x6_1 ((rd_T69 l1 x15_1).f0) ((rd_T69 l1 x15_1).f1) t127 _ ?side1 ?side2 A16.out).mono ?_); (case side1 => refine (Kd.V_reads' (e := 69) (base := w.heap.size) (ok := fun k_ => ((P0_ k_ ∨ w.heap.size ≤ k_) ∧ k_ ≠ gb126)) (n := x6_1.length) (c := co19) ?_).2.2; exact (by (with_reducible repeat (first | apply Kd.V_alloc | apply Kd.V_drewN | apply Kd.V_drew)); exact (Kd.V_mono (Kd.V_far (p := ⟨gb126, 1, none⟩) (Kd.V_far (p := ⟨gb126, 0, none⟩) (Kd.V_mono HO_6.out (fun k_ hk => (⟨hk, hk.2⟩ : _ ∧ k_ ≠ gb126))) (fun _ hk => hk.2) (.string ((rd_T69 l1 x15_1).f0))) (fun _ hk => hk.2) (.string ((rd_T69 l1 x15_1).f1))) (fun _ h_ => h_.1)))); (case side2 => exact (Kd.V_reads' HO_6.out).2.1); rintro e w20 ⟨v128, rfl, ho0, hb⟩; refine ⟨_, rfl, ?_⟩; have n0_ := Aside0.mk (Kd.V_elder' (by (with_reducible repeat (first | apply Kd.V_alloc | apply Kd.V_drewN | apply Kd.V_drew)); exact (Kd.V_mono (Kd.V_far (p := ⟨gb126, 1, none⟩) (Kd.V_far (p := ⟨gb126, 0, none⟩) (Kd.V_mono HO_6.out (fun k_ hk => (⟨hk, hk.2⟩ : _ ∧ k_ ≠ gb126))) (fun _ hk => hk.2) (.string ((rd_T69 l1 x15_1).f0))) (fun _ hk => hk.2) (.string ((rd_T69 l1 x15_1).f1))) (fun _ h_ => h_.1))) (Kd.R_base ho0) hb); have n1_ := Aside0.mk (Kd.R_lower (Kd.R_newB (Kd.R_newM (M := fun k_ => (w.heap.size ≤ k_)) ho0 (below_size (by repeat (first | (with_reducible first | exact HB.out | apply below_alloc | apply pw_below_drewN | apply below_drew1 | refine below_set ?_ GE126.out) | exact HB.out))) (fun k_ h_ => h_)) (g := gb126) (o := .cells #[.string ((rd_T69 l1 x15_1).f0), .string ((rd_T69 l1 x15_1).f1)] 69 (0, 0)) (by (with_reducible repeat (first | refine blk_drewN ?_ _ | refine blk_drew ?_ | refine blk_alloc ?_ _)); refine blk_put (cs := #[.string ((rd_T69 l1 x15_1).f0), .string (⟨#[]⟩ : ByteArray)]) ?_ 1 _ rfl; (with_reducible repeat (first | refine blk_drewN ?_ _ | refine blk_drew ?_ | refine blk_alloc ?_ _)); refine blk_put (cs := #[.string (⟨#[]⟩ : ByteArray), .string (⟨#[]⟩ : ByteArray)]) ?_ 0 _ rfl; (with_reducible repeat (first | refine blk_drewN ?_ _ | refine blk_drew ?_ | refine blk_alloc ?_ _)); exact BK126.out)) (below_size (by repeat (first | (with_reducible first | exact HB.out | apply below_alloc | apply pw_below_drewN | apply below_drew1 | refine below_set ?_ GE126.out) | exact HB.out)))); have n2_ := Aside0.mk (blk_below (g := gb126) (o := .cells #[.string ((rd_T69 l1 x15_1).f0), .string ((rd_T69 l1 x15_1).f1)] 69 (0, 0)) (by (with_reducible repeat (first | refine blk_drewN ?_ _ | refine blk_drew ?_ | refine blk_alloc ?_ _)); refine blk_put (cs := #[.string ((rd_T69 l1 x15_1).f0), .string (⟨#[]⟩ : ByteArray)]) ?_ 1 _ rfl; (with_reducible repeat (first | refine blk_drewN ?_ _ | refine blk_drew ?_ | refine blk_alloc ?_ _)); refine blk_put (cs := #[.string (⟨#[]⟩ : ByteArray), .string (⟨#[]⟩ : ByteArray)]) ?_ 0 _ rfl; (with_reducible repeat (first | refine blk_drewN ?_ _ | refine blk_drew ?_ | refine blk_alloc ?_ _)); exact BK126.out) hb); have n3_ := Aside0.mk (below_step (by repeat (first | (with_reducible first | exact HB.out | apply below_alloc | apply pw_below_drewN | apply below_drew1 | refine below_set ?_ GE126.out) | exact HB.out)) hb); clear HO_6; clear BK126; clear HB; have HO_6 := n0_; have HO129 := n1_; have BK126 := n2_; have HB := n3_; clear n0_ n1_ n2_ n3_; (try clear hb); (try clear hb2); (try clear hk); (try clear hi); (try clear ho0)))
                    go_roundg k1
                    case measure => have := HK1.out; omega
                    case rel => exact ⟨(t127), (wrap64 (x15_1 + 1)), (by first | rfl | (simp; done) | (simp [*]; done)), H', ⟨by have := HK1.out; omega⟩, ⟨Kd.V_mono (Kd.R_V (by (with_reducible repeat (first | apply Kd.R_alloc | apply Kd.R_drewN | apply Kd.R_drew)); exact Kd.R_mono HO129.out (fun _ hk => hk.1.1))) (fun k_ hk => by first | exact ⟨(.inr (hk.1)), hk.2⟩ | exact (.inr (hk)))⟩, ⟨by repeat (first | (with_reducible first | exact HB.out | apply below_alloc | apply pw_below_drewN | apply below_drew1 | refine below_set ?_ GE126.out) | exact HB.out)⟩⟩
            · rw [if_neg c6] at H
              exact absurd H (by simp)
          · rw [if_neg c5] at H
            exact absurd H (by simp)
        · rw [if_neg c4] at H
          have c4b0 : decide (x15_1 < (l1.length : Int)) = false := decide_eq_false c4
          clear c4
          by_cases c21 : (x6_1.length : Int) > 40
          · rw [if_pos c21] at H
            have c21b0 : decide (40 < (x6_1.length : Int)) = true := decide_eq_true c21
            have c21b1 : decide (40 < x6_1.length) = true := decide_eq_true (by omega)
            clear c21
            simp only [Option.some.injEq, Prod.mk.injEq] at H
            obtain ⟨rfl, rfl⟩ := H
            obtain ⟨Ao22, co22, eo22⟩ := Kd.V_slice HO_6.out
            subst eo22
            go_wp2
            go_ret2
            exact ⟨_, by first | rfl | (simp [errW_none, errW_some] <;> rfl) | (simp [*, errW_none, errW_some] <;> rfl), (by first | exact Kd.V_nil _ _ _ _ _ | exact Kd.V_mono (Kd.R_V (by first | exact Kd.R_nil _ _ _ _ _ | exact Kd.N_nil _ _ _ _ _ | exact Kd.V_nil _ _ _ _ _ | exact Kd.Q_nil _ _ _ _ _ | exact Kd.S_nil _ _ _ _ _)) (fun k_ hk => by first | exact ⟨(.inr (hk.1)), hk.2⟩ | exact (.inr (hk)))), by repeat (first | (with_reducible first | exact HB.out | apply below_alloc | apply pw_below_drewN | apply below_drew1) | exact HB.out)⟩
          · rw [if_neg c21] at H
            have c21b0 : decide (40 < (x6_1.length : Int)) = false := decide_eq_false c21
            have c21b1 : decide (40 < x6_1.length) = false := decide_eq_false (by omega)
            clear c21
            simp only [Option.some.injEq, Prod.mk.injEq] at H
            obtain ⟨rfl, rfl⟩ := H
            obtain ⟨Ao23, co23, eo23⟩ := Kd.V_slice HO_6.out
            subst eo23
            go_wp2
            go_ret2
            exact ⟨_, by first | rfl | (simp [errW_none, errW_some] <;> rfl) | (simp [*, errW_none, errW_some] <;> rfl), by (with_reducible repeat (first | apply Kd.V_alloc | apply Kd.V_drewN | apply Kd.V_drew)); exact HO_6.out, by repeat (first | (with_reducible first | exact HB.out | apply below_alloc | apply pw_below_drewN | apply below_drew1) | exact HB.out)⟩

/-! ### bagnallref_RowsSet: function 26 -/
def bagnallref_RowsSet.f (k : Nat) (l0 : List (S69)) (l1 : List (S69)) : Option ((List (S69)) × Int) := (bagnallref_RowsFault.f k l0).bind fun t130 => (if t130 = 0 then ((bagnallref_rowsChanges.f k l0 l1).bind fun bt131 => (some (bt131.1, bt131.2))) else (some (([] : List (S69)), t130)))
theorem bagnallref_RowsSet.mono : ∀ a0 a1 k, LeO (bagnallref_RowsSet.f k a0 a1) (bagnallref_RowsSet.f (k + 1) a0 a1) := by
  intro a0 a1 k
  unfold bagnallref_RowsSet.f
  repeat' first
      | (with_reducible exact bagnallref_RowsFault.mono _ _)
      | (with_reducible exact bagnallref_rowsChanges.mono _ _ _)
      | (with_reducible exact LeO.refl _)
      | (with_reducible exact LeO.none _)
      | (with_reducible refine LeO.ite ?_ ?_)
      | (with_reducible refine LeO.bind ?_ (fun _ => ?_))
      | exact bagnallref_RowsFault.mono _ _
      | exact bagnallref_rowsChanges.mono _ _ _
      | exact LeO.none _
      | refine LeO.ite ?_ ?_
      | refine LeO.bind ?_ (fun _ => ?_)
set_option maxHeartbeats 8000000 in
set_option maxRecDepth 100000 in
theorem bagnallref_RowsSet.calls (k : Nat) (P0_ : Nat → Prop) (A0 : Option Addr) (c0 : Nat) (l0 : List (S69)) (A1 : Option Addr) (c1 : Nat) (l1 : List (S69)) (r1 : List (S69)) (r2 : Int) (w : World) (hs0 : Kd.V k69 69 w w.heap.size (fun k_ => P0_ k_) (.slice A0 l0.length c0) l0) (hr1 : Kd.C k69 w A1 l1.length l1) (hc1 : l1.length ≤ c1) (h : bagnallref_RowsSet.f k l0 l1 = some (r1, r2)) :
    Calls Try.prog 26 #[.slice A0 l0.length c0, .slice A1 l1.length c1] w fun e w' => ∃ v0_ : Value, e = .returned (.tuple #[v0_, .int .i64 r2]) ∧ Kd.V k69 69 w' w.heap.size (fun k_ => (P0_ k_ ∨ w.heap.size ≤ k_)) v0_ r1 ∧ Below w.heap.size w w' := by
  have HO0 := Aside0.mk (show Kd.V k69 69 w w.heap.size (fun k_ => (P0_ k_ ∨ w.heap.size ≤ k_)) (.slice A0 l0.length c0) l0 from Kd.V_mono hs0 (fun k_ hk => .inl hk))
  have HR1 := Aside0.mk hr1
  have HC1 := Aside0.mk hc1
  clear hr1 hc1
  have HB := Aside0.mk (Below.refl w.heap.size w)
  have H : ((bagnallref_RowsFault.f k l0).bind fun t130 => (if t130 = 0 then ((bagnallref_rowsChanges.f k l0 l1).bind fun bt131 => (some (bt131.1, bt131.2))) else (some (([] : List (S69)), t130)))) = some (r1, r2) := h
  clear h
  replace H := Option.bind_eq_some_iff.mp H
  obtain ⟨t130, A30, H⟩ := H
  replace H : (if t130 = 0 then ((bagnallref_rowsChanges.f k l0 l1).bind fun bt131 => (some (bt131.1, bt131.2))) else (some (([] : List (S69)), t130))) = some (r1, r2) := H
  have A3 := Aside0.mk A30
  clear A30
  by_cases c4 : t130 = 0
  · rw [if_pos c4] at H
    have c4b0 : (t130 == 0) = true := beq_iff_eq.mpr c4
    have c4b1 : (t130 != 0) = false := bne_eq_false_iff_eq.mpr c4
    clear c4
    replace H := Option.bind_eq_some_iff.mp H
    obtain ⟨⟨t131, t134⟩, A50, H⟩ := H
    replace H : (some (t131, t134)) = some (r1, r2) := H
    have A5 := Aside0.mk A50
    clear A50
    simp only [Option.some.injEq, Prod.mk.injEq] at H
    obtain ⟨rfl, rfl⟩ := H
    go_enter Try.func26, Try.ntmps26
    go_wp2_with (first | ((with_reducible refine gate_callee (f := 19) rfl ?_); refine goesL_ (some 8) rfl rfl Try.func19 (by kernel_rfl) rfl #[.slice A0 l0.length c0] rfl (by (try simp only [List.map_toArray, List.map_cons, List.map_nil]); first | done | rfl | (simp only [List.length_drop, List.length_take]; rfl)) ?_; (with_reducible refine (bagnallref_RowsFault.calls k _ _ l0 t130 _ ?side1 ?side2 A3.out).mono ?_); (case side1 => repeat (first | exact (Kd.V_reads' HO0.out).2.2 | (with_reducible refine Kd.C_alloc ?_ _) | (with_reducible refine Kd.C_drewN ?_ _) | (with_reducible refine Kd.C_drew ?_))); (case side2 => exact (Kd.V_reads' HO0.out).2.1); rintro e w6 ⟨rfl, hb⟩; refine ⟨_, rfl, ?_⟩; have n0_ := Aside0.mk (Kd.V_below (by (with_reducible repeat (first | apply Kd.V_alloc | apply Kd.V_drewN | apply Kd.V_drew)); exact HO0.out) hb); have n1_ := Aside0.mk (below_step (by repeat (first | (with_reducible first | exact HB.out | apply below_alloc | apply pw_below_drewN | apply below_drew1) | exact HB.out)) hb); clear HO0; clear HB; have HO0 := n0_; have HB := n1_; clear n0_ n1_; (try clear hb); (try clear hb2); (try clear hk); (try clear hi)) | ((with_reducible refine gate_callee (f := 50) rfl ?_); refine goesL_ (some 14) rfl rfl Try.func50 (by kernel_rfl) rfl #[.slice A0 l0.length c0, .slice A1 l1.length c1] rfl (by (try simp only [List.map_toArray, List.map_cons, List.map_nil]); first | done | rfl | (simp only [List.length_drop, List.length_take]; rfl)) ?_; (with_reducible refine (bagnallref_rowsChanges.calls k (fun k_ => (P0_ k_ ∨ w.heap.size ≤ k_)) _ _ l0 _ _ l1 t131 t134 _ ?side1 ?side2 ?side3 A5.out).mono ?_); (case side1 => exact HO0.out); (case side2 => repeat (first | exact (Kd.C_below HR1.out HB.out) | (with_reducible refine Kd.C_alloc ?_ _) | (with_reducible refine Kd.C_drewN ?_ _) | (with_reducible refine Kd.C_drew ?_))); (case side3 => exact HC1.out); rintro e w7 ⟨v132, rfl, ho0, hb⟩; refine ⟨_, rfl, ?_⟩; have n0_ := Aside0.mk (Kd.V_below (by (with_reducible repeat (first | apply Kd.V_alloc | apply Kd.V_drewN | apply Kd.V_drew)); exact HO0.out) hb); have n1_ := Aside0.mk (Kd.V_lower (Kd.V_mono (ok' := fun k_ => (P0_ k_ ∨ w.heap.size ≤ k_)) ho0 (fun k_ hk_ => Or.elim hk_ (fun hs_ => hs_) (fun hn_ => (.inr (Nat.le_trans (below_size (by repeat (first | (with_reducible first | exact HB.out | apply below_alloc | apply pw_below_drewN | apply below_drew1) | exact HB.out))) hn_))))) (below_size (by repeat (first | (with_reducible first | exact HB.out | apply below_alloc | apply pw_below_drewN | apply below_drew1) | exact HB.out)))); have n2_ := Aside0.mk (below_step (by repeat (first | (with_reducible first | exact HB.out | apply below_alloc | apply pw_below_drewN | apply below_drew1) | exact HB.out)) hb); clear HO0; clear HB; have HO0 := n0_; have HO133 := n1_; have HB := n2_; clear n0_ n1_ n2_; (try clear hb); (try clear hb2); (try clear hk); (try clear hi); (try clear ho0)))
    go_ret2
    exact ⟨_, by first | rfl | (simp [errW_none, errW_some] <;> rfl) | (simp [*, errW_none, errW_some] <;> rfl), by (with_reducible repeat (first | apply Kd.V_alloc | apply Kd.V_drewN | apply Kd.V_drew)); exact HO133.out, by repeat (first | (with_reducible first | exact HB.out | apply below_alloc | apply pw_below_drewN | apply below_drew1) | exact HB.out)⟩
  · rw [if_neg c4] at H
    have c4b0 : (t130 == 0) = false := beq_eq_false_iff_ne.mpr c4
    have c4b1 : (t130 != 0) = true := bne_iff_ne.mpr c4
    simp only [Option.some.injEq, Prod.mk.injEq] at H
    obtain ⟨rfl, rfl⟩ := H
    go_enter Try.func26, Try.ntmps26
    go_wp2_with (first | ((with_reducible refine gate_callee (f := 19) rfl ?_); refine goesL_ (some 8) rfl rfl Try.func19 (by kernel_rfl) rfl #[.slice A0 l0.length c0] rfl (by (try simp only [List.map_toArray, List.map_cons, List.map_nil]); first | done | rfl | (simp only [List.length_drop, List.length_take]; rfl)) ?_; (with_reducible refine (bagnallref_RowsFault.calls k _ _ l0 t130 _ ?side1 ?side2 A3.out).mono ?_); (case side1 => repeat (first | exact (Kd.V_reads' HO0.out).2.2 | (with_reducible refine Kd.C_alloc ?_ _) | (with_reducible refine Kd.C_drewN ?_ _) | (with_reducible refine Kd.C_drew ?_))); (case side2 => exact (Kd.V_reads' HO0.out).2.1); rintro e w8 ⟨rfl, hb⟩; refine ⟨_, rfl, ?_⟩; have n0_ := Aside0.mk (Kd.V_below (by (with_reducible repeat (first | apply Kd.V_alloc | apply Kd.V_drewN | apply Kd.V_drew)); exact HO0.out) hb); have n1_ := Aside0.mk (below_step (by repeat (first | (with_reducible first | exact HB.out | apply below_alloc | apply pw_below_drewN | apply below_drew1) | exact HB.out)) hb); clear HO0; clear HB; have HO0 := n0_; have HB := n1_; clear n0_ n1_; (try clear hb); (try clear hb2); (try clear hk); (try clear hi)))
    go_ret2
    exact ⟨_, by first | rfl | (simp [errW_none, errW_some] <;> rfl) | (simp [*, errW_none, errW_some] <;> rfl), (by first | exact Kd.V_nil _ _ _ _ _ | exact Kd.V_mono (Kd.R_V (by first | exact Kd.R_nil _ _ _ _ _ | exact Kd.N_nil _ _ _ _ _ | exact Kd.V_nil _ _ _ _ _ | exact Kd.Q_nil _ _ _ _ _ | exact Kd.S_nil _ _ _ _ _)) (fun k_ hk => by first | exact ⟨(.inr (hk.1)), hk.2⟩ | exact (.inr (hk)))), by repeat (first | (with_reducible first | exact HB.out | apply below_alloc | apply pw_below_drewN | apply below_drew1) | exact HB.out)⟩

/-! ### bagnalllaw_sameRows: function 24 -/
def bagnalllaw_sameRows.l0 : Nat → List (S69) → List (S69) → Int → Option (Bool)
  | 0, _, _, _ => none
  | k + 1, x0, x1, x5 => if x5 < (x0.length : Int) then (if 0 ≤ x5 then (if x5 < (x1.length : Int) then (if (!((((rd_T69 x0 x5).f0).toList) == (((rd_T69 x1 x5).f0).toList)) || (!((((rd_T69 x0 x5).f1).toList) == (((rd_T69 x1 x5).f1).toList)))) = true then (some false) else (bagnalllaw_sameRows.l0 k x0 x1 (wrap64 (x5 + 1)))) else (none)) else (none)) else (some true)
def bagnalllaw_sameRows.f (k : Nat) (l0 : List (S69)) (l1 : List (S69)) : Option (Bool) := if (l0.length : Int) = (l1.length : Int) then (bagnalllaw_sameRows.l0 k l0 l1 0) else (some false)
theorem bagnalllaw_sameRows.mono_l : ∀ k, (∀ y0 y1 y2, LeO (bagnalllaw_sameRows.l0 k y0 y1 y2) (bagnalllaw_sameRows.l0 (k + 1) y0 y1 y2))
  | 0 => fun _ _ _ r h => by simp [bagnalllaw_sameRows.l0] at h
  | k + 1 => by
    have ih0 := bagnalllaw_sameRows.mono_l k
    · intro y0 y1 y2
      unfold bagnalllaw_sameRows.l0
      repeat' first
      | (with_reducible exact ih0 _ _ _)
      | (with_reducible exact LeO.refl _)
      | (with_reducible exact LeO.none _)
      | (with_reducible refine LeO.ite ?_ ?_)
      | (with_reducible refine LeO.bind ?_ (fun _ => ?_))
      | exact ih0 _ _ _
      | exact LeO.none _
      | refine LeO.ite ?_ ?_
      | refine LeO.bind ?_ (fun _ => ?_)
theorem bagnalllaw_sameRows.mono : ∀ a0 a1 k, LeO (bagnalllaw_sameRows.f k a0 a1) (bagnalllaw_sameRows.f (k + 1) a0 a1) := by
  intro a0 a1 k
  have ih0 := bagnalllaw_sameRows.mono_l k
  unfold bagnalllaw_sameRows.f
  repeat' first
      | (with_reducible exact ih0 _ _ _)
      | (with_reducible exact LeO.refl _)
      | (with_reducible exact LeO.none _)
      | (with_reducible refine LeO.ite ?_ ?_)
      | (with_reducible refine LeO.bind ?_ (fun _ => ?_))
      | exact ih0 _ _ _
      | exact LeO.none _
      | refine LeO.ite ?_ ?_
      | refine LeO.bind ?_ (fun _ => ?_)
set_option maxHeartbeats 8000000 in
set_option maxRecDepth 100000 in
theorem bagnalllaw_sameRows.calls (k : Nat) (A0 : Option Addr) (c0 : Nat) (l0 : List (S69)) (A1 : Option Addr) (c1 : Nat) (l1 : List (S69)) (r : Bool) (w : World) (hr0 : Kd.C k69 w A0 l0.length l0) (hc0 : l0.length ≤ c0) (hr1 : Kd.C k69 w A1 l1.length l1) (hc1 : l1.length ≤ c1) (h : bagnalllaw_sameRows.f k l0 l1 = some r) :
    Calls Try.prog 24 #[.slice A0 l0.length c0, .slice A1 l1.length c1] w fun e w' => e = .returned (.bool r) ∧ Drawn0 w w' := by
  have hu69 := Try.underlying69
  have HR0 := Aside0.mk hr0
  have HC0 := Aside0.mk hc0
  clear hr0 hc0
  have HR1 := Aside0.mk hr1
  have HC1 := Aside0.mk hc1
  clear hr1 hc1
  have H : (if (l0.length : Int) = (l1.length : Int) then (bagnalllaw_sameRows.l0 k l0 l1 0) else (some false)) = some r := h
  clear h
  by_cases c3 : (l0.length : Int) = (l1.length : Int)
  · rw [if_pos c3] at H
    have c3b0 : ((l0.length : Int) == (l1.length : Int)) = true := beq_iff_eq.mpr c3
    have c3b1 : ((l0.length : Int) != (l1.length : Int)) = false := bne_eq_false_iff_eq.mpr c3
    have c3b2 : (l0.length == l1.length) = true := by first | simpa using c3 | (simp at c3 ⊢; omega)
    clear c3
    have H' := Aside0.mk H
    clear H
    go_enter Try.func24, Try.ntmps24
    go_wp2
    repeat (go_quiet (fail); try go_wp2)
    go_loopg [5] k (fun kq v5 w' => ∃ (x5_1 : Int), v5 = .int .i64 x5_1 ∧ Aside0 (bagnalllaw_sameRows.l0 kq l0 l1 x5_1 = some r) ∧ Aside0 (kq ≤ k) ∧ Drawn0 w w')
    case atStart => exact ⟨(0), (by first | rfl | (simp; done) | (simp [*]; done)), H', ⟨Nat.le_refl _⟩, by repeat (first | exact Drawn0.refl _ | apply Drawn0.step)⟩
    case round =>
      clear H'
      try clear c1
      try clear c2
      try clear p2
      try clear c3
      try clear c3b0
      try clear c3b1
      try clear c3b2
      obtain ⟨x5_1, rfl, HA, HK1, ⟨m1, rfl⟩⟩ := hrel
      cases gk with
      | zero => exact absurd HA.out (by simp [bagnalllaw_sameRows.l0])
      | succ k1 =>
        have H := HA.out
        clear HA
        simp only [bagnalllaw_sameRows.l0] at H
        by_cases c4 : x5_1 < (l0.length : Int)
        · rw [if_pos c4] at H
          have c4b0 : decide (x5_1 < (l0.length : Int)) = true := decide_eq_true c4
          clear c4
          by_cases c5 : 0 ≤ x5_1
          · rw [if_pos c5] at H
            have c5b0 : decide (0 ≤ x5_1) = true := decide_eq_true c5
            clear c5
            by_cases c6 : x5_1 < (l1.length : Int)
            · rw [if_pos c6] at H
              have c6b0 : decide (x5_1 < (l1.length : Int)) = true := decide_eq_true c6
              clear c6
              by_cases c7 : (!((((rd_T69 l0 x5_1).f0).toList) == (((rd_T69 l1 x5_1).f0).toList)) || (!((((rd_T69 l0 x5_1).f1).toList) == (((rd_T69 l1 x5_1).f1).toList)))) = true
              · rw [if_pos c7] at H
                have c7b0 : (!((((rd_T69 l0 x5_1).f0).toList) == (((rd_T69 l1 x5_1).f0).toList)) || (!((((rd_T69 l0 x5_1).f1).toList) == (((rd_T69 l1 x5_1).f1).toList)))) = true := c7
                clear c7
                obtain rfl := Option.some.inj H
                have p135 : 0 ≤ (x5_1 : Int) := of_decide_eq_true (by first | (with_reducible assumption) | assumption)
                have q135 : x5_1 < (l0.length : Int) := of_decide_eq_true (by first | (with_reducible assumption) | assumption)
                obtain ⟨ad135, e135, hx135_0, hx135_1⟩ := at_T69 HR0.out x5_1 p135 q135
                cases e135
                replace p135 := eq_true p135
                replace q135 := eq_true q135
                have p136 : 0 ≤ (x5_1 : Int) := of_decide_eq_true (by first | (with_reducible assumption) | assumption)
                have q136 : x5_1 < (l1.length : Int) := of_decide_eq_true (by first | (with_reducible assumption) | assumption)
                obtain ⟨ad136, e136, hx136_0, hx136_1⟩ := at_T69 HR1.out x5_1 p136 q136
                cases e136
                replace p136 := eq_true p136
                replace q136 := eq_true q136
                go_wp2
                repeat (go_quiet (fail); try go_wp2)
                go_ret
                exact ⟨by first | rfl | (simp; done) | (simp [*]; done), by repeat (first | exact Drawn0.refl _ | apply Drawn0.step)⟩
              · rw [if_neg c7] at H
                have c7b0 : (!((((rd_T69 l0 x5_1).f0).toList) == (((rd_T69 l1 x5_1).f0).toList)) || (!((((rd_T69 l0 x5_1).f1).toList) == (((rd_T69 l1 x5_1).f1).toList)))) = false := by simpa using c7
                clear c7
                have H' := Aside0.mk H
                clear H
                have p135 : 0 ≤ (x5_1 : Int) := of_decide_eq_true (by first | (with_reducible assumption) | assumption)
                have q135 : x5_1 < (l0.length : Int) := of_decide_eq_true (by first | (with_reducible assumption) | assumption)
                obtain ⟨ad135, e135, hx135_0, hx135_1⟩ := at_T69 HR0.out x5_1 p135 q135
                cases e135
                replace p135 := eq_true p135
                replace q135 := eq_true q135
                have p136 : 0 ≤ (x5_1 : Int) := of_decide_eq_true (by first | (with_reducible assumption) | assumption)
                have q136 : x5_1 < (l1.length : Int) := of_decide_eq_true (by first | (with_reducible assumption) | assumption)
                obtain ⟨ad136, e136, hx136_0, hx136_1⟩ := at_T69 HR1.out x5_1 p136 q136
                cases e136
                replace p136 := eq_true p136
                replace q136 := eq_true q136
                go_wp2
                repeat (go_quiet (fail); try go_wp2)
                go_roundg k1
                case measure => have := HK1.out; omega
                case rel => exact ⟨(wrap64 (x5_1 + 1)), (by first | rfl | (simp; done) | (simp [*]; done)), H', ⟨by have := HK1.out; omega⟩, by repeat (first | exact Drawn0.refl _ | apply Drawn0.step)⟩
            · rw [if_neg c6] at H
              exact absurd H (by simp)
          · rw [if_neg c5] at H
            exact absurd H (by simp)
        · rw [if_neg c4] at H
          have c4b0 : decide (x5_1 < (l0.length : Int)) = false := decide_eq_false c4
          clear c4
          obtain rfl := Option.some.inj H
          go_wp2
          repeat (go_quiet (fail); try go_wp2)
          go_ret
          exact ⟨by first | rfl | (simp; done) | (simp [*]; done), by repeat (first | exact Drawn0.refl _ | apply Drawn0.step)⟩
  · rw [if_neg c3] at H
    have c3b0 : ((l0.length : Int) == (l1.length : Int)) = false := beq_eq_false_iff_ne.mpr c3
    have c3b1 : ((l0.length : Int) != (l1.length : Int)) = true := bne_iff_ne.mpr c3
    have c3b2 : (l0.length == l1.length) = false := by first | simpa using c3 | (simp at c3 ⊢; omega)
    obtain rfl := Option.some.inj H
    go_enter Try.func24, Try.ntmps24
    go_wp2
    repeat (go_quiet (fail); try go_wp2)
    go_ret
    exact ⟨by first | rfl | (simp; done) | (simp [*]; done), by repeat (first | exact Drawn0.refl _ | apply Drawn0.step)⟩

end Go.Proofs.Ytnjidfgjldkkcaa.Q
/- Plain laws of the text that stands behind all with a head; of a piece of a table. -/
namespace Go.Proofs.Ytnjidfgjldkkcaa.Plain
open Go.RowKit Go.Proofs.Ytnjidfgjldkkcaa.Q Go.Proofs.YtnjidfgjldkkcaaW.PrintWords

/-- The text behind all with this head; none: no such. -/
def nx : List UInt8 → List UInt8
  | [] => []
  | a :: t => if nx t = [] then (if a = 255 then [] else [a + 1]) else a :: nx t
theorem nx_snoc255 : ∀ l : List UInt8, nx (l ++ [255]) = nx l
  | [] => rfl
  | b :: l => by
    have := nx_snoc255 l
    simp only [List.cons_append, nx, this]
theorem nx_snoc {a : UInt8} (h : a ≠ 255) : ∀ l : List UInt8, nx (l ++ [a]) = l ++ [a + 1]
  | [] => by simp [nx, h]
  | b :: l => by
    have := nx_snoc h l
    simp [nx, this]
theorem up_lt {a : UInt8} (h : a ≠ 255) : (a + 1).toNat = a.toNat + 1 := by
  have h1 : a.toNat < 256 := a.toNat_lt
  have h2 : a.toNat ≠ 255 := fun e => h (UInt8.toNat_inj.1 e)
  rw [UInt8.toNat_add]
  have : (1 : UInt8).toNat = 1 := rfl
  rw [this]; omega
theorem lt_dec {a b : UInt8} : (a < b) = (a.toNat < b.toNat) := propext UInt8.lt_iff_toNat_lt
theorem eq_dec {a b : UInt8} : (a = b) = (a.toNat = b.toNat) := propext UInt8.toNat_inj.symm
/-- Who has the head: he is not ahead of it, and he is ahead of what follows all. -/
theorem has_head : ∀ h k : List UInt8, (k.take h.length = h) ↔ (Op.bytesLess k h = false ∧ (nx h = [] ∨ Op.bytesLess k (nx h) = true))
  | [], k => by cases k <;> simp [Op.bytesLess, nx]
  | a :: t, [] => by simp [Op.bytesLess]
  | a :: t, b :: u => by
    have ih := has_head t u
    simp only [List.length_cons, List.take_succ_cons, List.cons.injEq, ih]
    by_cases hab : b = a
    · subst hab
      have hi : ¬ b < b := by rw [lt_dec]; omega
      by_cases hn : nx t = []
      · by_cases h255 : b = 255
        · simp [Op.bytesLess, nx, hn, h255]
        · have : b < b + 1 := by rw [lt_dec, up_lt h255]; omega
          simp [Op.bytesLess, nx, hn, h255, this]
      · simp [Op.bytesLess, nx, hn]
    · by_cases hlt : b < a
      · simp [Op.bytesLess, hab, hlt]
      · have hlt' : ¬ b.toNat < a.toNat := by rw [← lt_dec]; exact hlt
        have hab' : ¬ b.toNat = a.toNat := by rw [← eq_dec]; exact hab
        by_cases hn : nx t = []
        · by_cases h255 : a = 255
          · have hb := b.toNat_lt
            have : a.toNat = 255 := by rw [h255]; rfl
            omega
          · have h3 : ¬ b < a + 1 := by rw [lt_dec, up_lt h255]; omega
            simp [Op.bytesLess, nx, hn, h255, hab, h3]
        · simp [Op.bytesLess, nx, hn, hab, hlt]
/-- Who is ahead of the head is ahead of what follows all. -/
theorem less_nx : ∀ h k : List UInt8, Op.bytesLess k h = true → nx h = [] ∨ Op.bytesLess k (nx h) = true
  | [], k, h => by cases k <;> simp [Op.bytesLess] at h
  | a :: t, [], _ => by
    cases h : nx (a :: t)
    · exact .inl rfl
    · right; rfl
  | a :: t, b :: u, h => by
    have ih := less_nx t u
    simp only [Op.bytesLess, Bool.or_eq_true, Bool.and_eq_true, decide_eq_true_eq, beq_iff_eq] at h
    by_cases hn : nx t = []
    · by_cases h255 : a = 255
      · left; simp [nx, hn, h255]
      · right
        have : b < a + 1 := by
          rw [lt_dec, up_lt h255]
          rcases h with h | ⟨rfl, _⟩
          · rw [lt_dec] at h; omega
          · omega
        simp [nx, hn, h255, Op.bytesLess, this]
    · right
      rcases h with h | ⟨rfl, h⟩
      · simp [nx, hn, Op.bytesLess, h]
      · rcases ih h with h2 | h2
        · exact absurd h2 hn
        · simp [nx, hn, Op.bytesLess, h2]

theorem toList_str (xs : List Int) : (strOfNums xs).toList = xs.map fun n => UInt8.ofNat n.toNat := by
  rw [Go.ByteArray.toList_eq]; rfl
theorem len_toList (s : ByteArray) : s.toList.length = s.size := by
  rw [Go.ByteArray.toList_eq, Array.length_toList]; rfl
theorem bt_toList {s : ByteArray} {i : Nat} (h : i < s.size) : bt s (i : Int) = ((s.toList[i]'(by rw [len_toList]; exact h)).toNat : Int) := by
  rw [bt_get h]
  simp only [toList_bytes, List.getElem_map]
theorem next_nx (s : ByteArray) : ∀ n, n ≤ s.size → (strOfNums (Q.raised s (trimLen s n))).toList = nx (s.toList.take n)
  | 0, _ => by rw [trimLen, Q.raised, toList_str]; rfl
  | n + 1, hn => by
    have hlt : n < s.toList.length := by rw [len_toList]; omega
    have hb := bt_toList (s := s) (i := n) (by omega)
    rw [List.take_succ_eq_append_getElem hlt]
    by_cases h : bt s (n : Int) = 255
    · have e : s.toList[n] = 255 := by
        rw [hb] at h
        apply UInt8.toNat_inj.1
        have : (255 : UInt8).toNat = 255 := rfl
        rw [this]; omega
      rw [trimLen, if_pos h, next_nx s n (by omega), e, nx_snoc255]
    · have e : s.toList[n] ≠ 255 := by
        intro e
        apply h
        rw [hb, e]; rfl
      have hlt2 : n < (bytesOf s).length := by rw [size_bytes]; omega
      rw [trimLen, if_neg h, nx_snoc e, toList_str, Q.raised, List.take_succ_eq_append_getElem hlt2, List.set_append_right _ _ (by rw [List.length_take]; omega)]
      rw [List.length_take, Nat.min_eq_left (Nat.le_of_lt hlt2), Nat.sub_self, List.set_cons_zero, List.map_append]
      congr 1
      · rw [toList_bytes, ← List.map_take, List.map_map]
        have : ((fun n : Int => UInt8.ofNat n.toNat) ∘ fun b : UInt8 => (b.toNat : Int)) = id := by
          funext b
          simp
        rw [this, List.map_id]
      · rw [List.map_cons, List.map_nil]
        congr 1
        apply UInt8.toNat_inj.1
        have h1 := (s.toList[n]).toNat_lt
        have h2 := up_lt e
        have h3 : (s.toList[n]).toNat ≠ 255 := fun e2 => e (UInt8.toNat_inj.1 e2)
        rw [h2, hb]
        simp only [UInt8.toNat_ofNat']
        omega

/-- The piece of a row between two ends that its order bears. -/
theorem seg {α : Type} (p q : α → Bool) : ∀ l : List α, l.Pairwise (fun x y => p y = true → p x = true) → l.Pairwise (fun x y => q y = true → q x = true) → (∀ x ∈ l, p x = true → q x = true) →
    (l.take (l.takeWhile q).length).drop (l.takeWhile p).length = l.filter fun x => !p x && q x
  | [], _, _, _ => rfl
  | x :: t, hp, hq, hpq => by
    have ih := seg p q t (List.Pairwise.of_cons hp) (List.Pairwise.of_cons hq) (fun y hy => hpq y (by simp [hy]))
    by_cases h1 : p x = true
    · have h2 := hpq x (by simp) h1
      simp [h1, h2, ih]
    · have hpt : ∀ y ∈ t, p y = false := fun y hy => Bool.eq_false_iff.2 fun e => h1 ((List.pairwise_cons.1 hp).1 y hy e)
      have h1' : p x = false := Bool.eq_false_iff.2 h1
      have h0 : (t.takeWhile p).length = 0 := by
        cases t with
        | nil => rfl
        | cons y s => simp [hpt y (by simp)]
      rw [h0, List.drop_zero] at ih
      by_cases h2 : q x = true
      · simp [h1', h2, ih]
      · have hqt : ∀ y ∈ t, q y = false := fun y hy => Bool.eq_false_iff.2 fun e => h2 ((List.pairwise_cons.1 hq).1 y hy e)
        have h2' : q x = false := Bool.eq_false_iff.2 h2
        simp only [List.takeWhile_cons, h1', h2', Bool.not_false, Bool.and_false, List.filter_cons]
        simp only [Bool.false_eq_true, if_false, List.length_nil, List.take_zero, List.drop_zero]
        exact (List.filter_eq_nil_iff.2 (fun y hy => by simp [hqt y hy])).symm
theorem tw_true {α : Type} : ∀ l : List α, l.takeWhile (fun _ => true) = l
  | [] => rfl
  | a :: t => by rw [List.takeWhile_cons_of_pos rfl, tw_true t]
/-- Has a key this head? -/
def pfx (h k : ByteArray) : Bool := decide (k.toList.take h.toList.length = h.toList)
theorem begin_seg {l : List S69} (ha : Asc l) (h : ByteArray) (n : ByteArray) (hn : n.toList = nx h.toList) :
    (l.take (if n.toList = [] then l.length else cut l n)).drop (cut l h) = l.filter (fun r => pfx h r.f0) := by
  have hmono : ∀ k : ByteArray, l.Pairwise (fun x y => kl y.f0 k = true → kl x.f0 k = true) := fun k => ha.imp (fun hxy hy => kl_trans hxy hy)
  have h1 := seg (fun r : S69 => kl r.f0 h) (fun r => if n.toList = [] then true else kl r.f0 n) l (hmono h) (by
    by_cases e : n.toList = []
    · simp only [e, if_pos]; exact ha.imp (fun _ _ => trivial)
    · simpa [e] using hmono n) (fun x _ hx => by
    by_cases e : n.toList = []
    · simp [e]
    · rcases less_nx _ _ hx with h2 | h2
      · rw [← hn] at h2; exact absurd h2 e
      · rw [if_neg e]; unfold kl; rw [hn]; exact h2)
  have e1 : (l.takeWhile fun r => if n.toList = [] then true else kl r.f0 n).length = if n.toList = [] then l.length else cut l n := by
    by_cases e : n.toList = []
    · simp [e, tw_true]
    · simp [e, cut]
  rw [e1] at h1
  refine Eq.trans h1 (List.filter_congr fun r _ => ?_)
  have := has_head h.toList r.f0.toList
  unfold pfx
  rw [Bool.eq_iff_iff, decide_eq_true_eq, this, ← hn]
  unfold kl
  by_cases e : n.toList = []
  · simp [e]
  · simp [e]
theorem same_l0 (l : List S69) (hl : l.length ≤ 1000000) : ∀ (d i : Nat), i + d = l.length → Ev (fun n => bagnalllaw_sameRows.l0 n l l (i : Int)) true
  | 0, i, hi => Ev.step (fun k => rfl) (Ev.neg (by omega) (Ev.now _))
  | d + 1, i, hi => by
    have e2 : wrap64 ((i : Int) + 1) = ((i + 1 : Nat) : Int) := wrap_succ (by omega)
    refine Ev.step (fun k => rfl) (Ev.pos (by omega) (Ev.pos (by omega) (Ev.pos (by omega) (Ev.neg (by simp) ?_))))
    rw [e2]
    exact same_l0 l hl d (i + 1) (by omega)
theorem same_ev (l : List S69) (hl : l.length ≤ 1000000) : Ev (fun n => bagnalllaw_sameRows.f n l l) true := by
  unfold bagnalllaw_sameRows.f
  exact Ev.pos rfl (same_l0 l hl l.length 0 (by omega))
end Go.Proofs.Ytnjidfgjldkkcaa.Plain
/- Plain laws of changes of a table: one change as the reference makes it; many. -/
namespace Go.Proofs.Ytnjidfgjldkkcaa.Plain
open Go.RowKit Go.Proofs.Ytnjidfgjldkkcaa.Q Go.Proofs.YtnjidfgjldkkcaaW.PrintWords
/-- A row more or less, as the reference walks: inn: it is in already. -/
def insW (c : S69) : Bool → List S69 → List S69
  | inn, [] => if inn = true then [] else [c]
  | inn, r :: t => if (!inn && kl c.f0 r.f0) = true then (if r.f0 = c.f0 then c :: insW c true t else c :: r :: insW c true t) else (if r.f0 = c.f0 then insW c inn t else r :: insW c inn t)
def refSet (l : List S69) (c : S69) : List S69 := insW c (decide (c.f1.toList = [])) l
theorem insW_len (c : S69) : ∀ (inn : Bool) (l : List S69), (insW c inn l).length ≤ l.length + 1
  | inn, [] => by unfold insW; split <;> simp
  | inn, r :: t => by
    have h1 := insW_len c true t
    have h2 := insW_len c inn t
    have h3 : (insW c true t).length ≤ t.length := by
      clear h1 h2
      induction t with
      | nil => simp [insW]
      | cons a t ih => unfold insW; simp only [Bool.not_true, Bool.false_and, Bool.false_eq_true, if_false]; split <;> simp <;> omega
    unfold insW
    repeat' split
    all_goals simp only [List.length_cons]; omega
theorem insW_true (c : S69) : ∀ l : List S69, (∀ r ∈ l, kl c.f0 r.f0 = true) → insW c true l = l
  | [], _ => by simp [insW]
  | r :: t, h => by
    have h1 := h r (by simp)
    have hne : ¬ r.f0 = c.f0 := fun e => by rw [e, kl_irr] at h1; cases h1
    unfold insW
    simp only [Bool.not_true, Bool.false_and, Bool.false_eq_true, if_false]
    rw [if_neg hne, insW_true c t (fun x hx => h x (by simp [hx]))]
theorem insW_new (c : S69) (l : List S69) (h : ∀ r ∈ l, kl c.f0 r.f0 = true) : insW c false l = c :: l := by
  cases l with
  | nil => simp [insW]
  | cons r t =>
    have h1 := h r (by simp)
    have hne : ¬ r.f0 = c.f0 := fun e => by rw [e, kl_irr] at h1; cases h1
    unfold insW
    rw [if_pos (by rw [h1]; rfl), if_neg hne, insW_true c t (fun x hx => h x (by simp [hx]))]
theorem cut_cons_true {r : S69} {t : List S69} {k : ByteArray} (h : kl r.f0 k = true) : cut (r :: t) k = cut t k + 1 := by
  unfold cut; rw [List.takeWhile_cons, if_pos h, List.length_cons]
theorem cut_cons_false {r : S69} {t : List S69} {k : ByteArray} (h : ¬ kl r.f0 k = true) : cut (r :: t) k = 0 := by
  unfold cut; rw [List.takeWhile_cons, if_neg h]; rfl
theorem placeB_false {l : List S69} (ha : Asc l) {k : ByteArray} (h : ¬ ∃ h : cut l k < l.length, l[cut l k].f0 = k) : placeB l k = false := Bool.eq_false_iff.2 fun e => h ((placeB_iff ha k).1 e)
theorem stepR_cons {r : S69} {t : List S69} (ha : Asc (r :: t)) (c : S69) (h : kl r.f0 c.f0 = true) : stepR (r :: t) c = r :: stepR t c := by
  have hat := List.Pairwise.of_cons ha
  have hc := cut_cons_true (t := t) h
  have hb : placeB (r :: t) c.f0 = placeB t c.f0 := by
    rw [Bool.eq_iff_iff, placeB_iff ha, placeB_iff hat]
    constructor
    · rintro ⟨h1, h2⟩
      refine ⟨by rw [hc, List.length_cons] at h1; omega, ?_⟩
      simp only [hc, List.getElem_cons_succ] at h2
      exact h2
    · rintro ⟨h1, h2⟩
      refine ⟨by rw [hc, List.length_cons]; omega, ?_⟩
      simp only [hc, List.getElem_cons_succ]
      exact h2
  unfold stepR
  rw [hb, placeI_cut ha, placeI_cut hat, hc]
  split
  · split
    · rfl
    · rfl
  · split
    · rfl
    · unfold insRow; simp
theorem refSet_step : ∀ (l : List S69), Asc l → ∀ c, refSet l c = stepR l c
  | [], ha, c => by
    have hb : placeB [] c.f0 = false := placeB_false ha (by rintro ⟨h, _⟩; simp at h)
    unfold refSet stepR
    rw [hb, if_neg (by simp)]
    by_cases hu : c.f1.toList = []
    · rw [if_pos hu, decide_eq_true hu]; simp [insW]
    · rw [if_neg hu, decide_eq_false hu, placeI_cut ha]; simp [insW, insRow, cut]
  | r :: t, ha, c => by
    have hat := List.Pairwise.of_cons ha
    have hr := (List.pairwise_cons.1 ha).1
    by_cases h1 : kl r.f0 c.f0 = true
    · rw [stepR_cons ha c h1, ← refSet_step t hat c]
      have h2 := kl_asym h1
      have hne : ¬ r.f0 = c.f0 := fun e => by rw [e, kl_irr] at h1; cases h1
      unfold refSet
      conv => lhs; unfold insW
      rw [h2, Bool.and_false, if_neg (by simp), if_neg hne]
    · have h0 := cut_cons_false (t := t) h1
      by_cases h2 : r.f0 = c.f0
      · have hb : placeB (r :: t) c.f0 = true := (placeB_iff ha _).2 ⟨by rw [h0]; simp, by simp only [h0, List.getElem_cons_zero]; exact h2⟩
        have ht : ∀ x ∈ t, kl c.f0 x.f0 = true := fun x hx => h2 ▸ hr x hx
        have hk : kl c.f0 r.f0 = false := by rw [h2]; exact kl_irr _
        unfold refSet stepR
        rw [if_pos hb, placeI_cut ha, h0]
        unfold insW
        rw [hk, Bool.and_false, if_neg (by simp), if_pos h2]
        by_cases hu : c.f1.toList = []
        · rw [if_pos hu, decide_eq_true hu, insW_true c t ht]; rfl
        · rw [if_neg hu, decide_eq_false hu, insW_new c t ht]; rfl
      · have hk : kl c.f0 r.f0 = true := by
          cases hk : kl c.f0 r.f0
          · exact absurd (kl_tri (Bool.eq_false_iff.2 h1) hk) h2
          · rfl
        have ht : ∀ x ∈ t, kl c.f0 x.f0 = true := fun x hx => kl_trans hk (hr x hx)
        have hb : placeB (r :: t) c.f0 = false := placeB_false ha (by rintro ⟨h, e⟩; simp only [h0, List.getElem_cons_zero] at e; exact h2 e)
        unfold refSet stepR
        rw [hb, if_neg (by simp), placeI_cut ha, h0]
        by_cases hu : c.f1.toList = []
        · rw [if_pos hu, decide_eq_true hu, insW_true c _ (by intro x hx; rcases List.mem_cons.1 hx with rfl | hx; exact hk; exact ht x hx)]
        · rw [if_neg hu, decide_eq_false hu, insW_new c _ (by intro x hx; rcases List.mem_cons.1 hx with rfl | hx; exact hk; exact ht x hx)]; rfl
theorem insW_mem (c : S69) : ∀ (inn : Bool) (l : List S69) (x : S69), x ∈ insW c inn l → x = c ∨ x ∈ l
  | inn, [], x, h => by unfold insW at h; split at h <;> simp at h; exact .inl h
  | inn, r :: t, x, h => by
    unfold insW at h
    repeat' split at h
    all_goals simp only [List.mem_cons] at h ⊢
    · rcases h with h | h
      · exact .inl h
      · rcases insW_mem c true t x h with h | h
        · exact .inl h
        · exact .inr (.inr h)
    · rcases h with h | h | h
      · exact .inl h
      · exact .inr (.inl h)
      · rcases insW_mem c true t x h with h | h
        · exact .inl h
        · exact .inr (.inr h)
    · rcases insW_mem c inn t x h with h | h
      · exact .inl h
      · exact .inr (.inr h)
    · rcases h with h | h
      · exact .inr (.inl h)
      · rcases insW_mem c inn t x h with h | h
        · exact .inl h
        · exact .inr (.inr h)
theorem stepR_asc : ∀ (l : List S69), Asc l → ∀ c, Asc (stepR l c)
  | [], ha, c => by
    rw [← refSet_step [] ha c]
    unfold refSet insW
    split
    · exact List.Pairwise.nil
    · exact List.pairwise_singleton _ _
  | r :: t, ha, c => by
    have hat := List.Pairwise.of_cons ha
    have hr := (List.pairwise_cons.1 ha).1
    by_cases h1 : kl r.f0 c.f0 = true
    · rw [stepR_cons ha c h1]
      refine List.Pairwise.cons (fun x hx => ?_) (stepR_asc t hat c)
      rw [← refSet_step t hat c] at hx
      rcases insW_mem c _ t x hx with rfl | hx
      · exact h1
      · exact hr x hx
    · rw [← refSet_step _ ha c]
      by_cases h2 : r.f0 = c.f0
      · have ht : ∀ x ∈ t, kl c.f0 x.f0 = true := fun x hx => h2 ▸ hr x hx
        have hk : kl c.f0 r.f0 = false := by rw [h2]; exact kl_irr _
        unfold refSet insW
        rw [hk, Bool.and_false, if_neg (by simp), if_pos h2]
        cases decide (c.f1.toList = [])
        · rw [insW_new c t ht]; exact List.Pairwise.cons ht hat
        · rw [insW_true c t ht]; exact hat
      · have hk : kl c.f0 r.f0 = true := by
          cases hk : kl c.f0 r.f0
          · exact absurd (kl_tri (Bool.eq_false_iff.2 h1) hk) h2
          · rfl
        have ht : ∀ x ∈ r :: t, kl c.f0 x.f0 = true := by
          intro x hx
          rcases List.mem_cons.1 hx with rfl | hx
          · exact hk
          · exact kl_trans hk (hr x hx)
        unfold refSet
        cases decide (c.f1.toList = [])
        · rw [insW_new c _ ht]; exact List.Pairwise.cons ht ha
        · rw [insW_true c _ ht]; exact ha
theorem changed_asc : ∀ (cs l : List S69), Asc l → Asc (changedF l cs)
  | [], _, h => h
  | c :: t, l, h => changed_asc t (stepR l c) (stepR_asc l h c)
theorem tl_eq {a b : ByteArray} : a.toList = b.toList ↔ a = b := toList_inj
theorem set_l0 (c : S69) (l : List S69) (hl : l.length ≤ 1000000) : ∀ (d i : Nat) (x : List S69) (inn : Bool), i + d = l.length → x.length ≤ 2 * i + 1 →
    Ev (fun n => bagnallref_rowsSet.l0 n x inn l (l.length : Int) (i : Int) c.f0 c.f1) (x ++ insW c inn (l.drop i))
  | 0, i, x, inn, hi, hx => by
    rw [List.drop_of_length_le (by omega)]
    refine Ev.step (fun k => rfl) (Ev.neg (by omega) ?_)
    cases inn
    · exact Ev.neg (by simp) (Ev.pos (by omega) (Ev.to (Ev.now _) (by simp [insW])))
    · exact Ev.pos rfl (Ev.to (Ev.now _) (by simp [insW]))
  | d + 1, i, x, inn, hi, hx => by
    have hlt : i < l.length := by omega
    have e2 : wrap64 ((i : Int) + 1) = ((i + 1 : Nat) : Int) := wrap_succ (by omega)
    rw [List.drop_eq_getElem_cons hlt]
    have hj : ∀ b : Bool, b = (!inn && kl c.f0 l[i].f0) → Ev (fun n => bagnallref_rowsSet.j1 n x inn l (l.length : Int) (i : Int) b c.f0 c.f1 l[i].f0 l[i].f1) (x ++ insW c inn (l[i] :: l.drop (i + 1))) := by
      intro b hb
      refine Ev.step (fun k => rfl) ?_
      unfold insW
      rw [← hb]
      cases b
      · rw [if_neg (by simp)]
        by_cases h : l[i].f0 = c.f0
        · rw [if_pos h]
          refine Ev.pos (tl_eq.2 h) ?_
          rw [e2]
          exact set_l0 c l hl d (i + 1) x inn (by omega) (by omega)
        · rw [if_neg h]
          refine Ev.neg (fun e => h (tl_eq.1 e)) (Ev.pos (by omega) ?_)
          rw [e2]
          exact Ev.to (set_l0 c l hl d (i + 1) (x ++ [l[i]]) inn (by omega) (by simp; omega)) (by rw [List.append_assoc]; rfl)
      · rw [if_pos rfl]
        refine Ev.pos (by omega) (Ev.bind (Ev.lift (r := x ++ [c]) rfl) ?_)
        by_cases h : l[i].f0 = c.f0
        · rw [if_pos h]
          refine Ev.pos (tl_eq.2 h) ?_
          rw [e2]
          exact Ev.to (set_l0 c l hl d (i + 1) (x ++ [c]) true (by omega) (by simp; omega)) (by rw [List.append_assoc]; rfl)
        · rw [if_neg h]
          refine Ev.neg (fun e => h (tl_eq.1 e)) (Ev.pos (by simp; omega) ?_)
          rw [e2]
          exact Ev.to (set_l0 c l hl d (i + 1) (x ++ [c] ++ [l[i]]) true (by omega) (by simp; omega)) (by rw [List.append_assoc, List.append_assoc]; rfl)
    refine Ev.step (fun k => rfl) (Ev.pos (by omega) (Ev.pos (by omega) (Ev.pos (by omega) ?_)))
    rw [rd69 hlt]
    cases inn
    · exact Ev.neg (by simp) (hj _ rfl)
    · exact Ev.pos rfl (hj _ rfl)
theorem set_ev (l : List S69) (c : S69) (hl : l.length ≤ 1000000) : Ev (fun n => bagnallref_rowsSet.f n l c.f0 c.f1) (refSet l c) := by
  unfold bagnallref_rowsSet.f refSet
  have h := set_l0 c l hl l.length 0 [] (c.f1.toList == []) (by omega) (by simp)
  rw [List.drop_zero, List.nil_append] at h
  have e : decide (c.f1.toList = []) = (c.f1.toList == []) := by
    rw [Bool.eq_iff_iff, decide_eq_true_eq, beq_iff_eq]
  rw [e]
  exact h
/-- What the reference says of changes. -/
def chgF (l cs : List S69) : List S69 × Int := if faultF l cs ≠ 0 then ([], faultF l cs) else (changedF l cs, 0)
theorem chg_l0 (cs : List S69) (hc : cs.length ≤ 60) : ∀ (d i : Nat) (now : List S69), i + d = cs.length → Asc now → now.length ≤ 1000 + i →
    Ev (fun n => bagnallref_rowsChanges.l0 n now cs (cs.length : Int) (i : Int)) (if (cs.drop i).any oddR = true then ([], 1) else if 40 < (changedF now (cs.drop i)).length then ([], 10) else (changedF now (cs.drop i), 0))
  | 0, i, now, hi, _, hn => by
    rw [List.drop_of_length_le (by omega)]
    refine Ev.step (fun k => rfl) (Ev.neg (by omega) ?_)
    show Ev _ (if 40 < now.length then ([], 10) else (now, 0))
    by_cases h : 40 < now.length
    · rw [if_pos h]; exact Ev.pos (by omega) (Ev.now _)
    · rw [if_neg h]; exact Ev.neg (by omega) (Ev.now _)
  | d + 1, i, now, hi, ha, hn => by
    have hlt : i < cs.length := by omega
    have e2 : wrap64 ((i : Int) + 1) = ((i + 1 : Nat) : Int) := wrap_succ (by omega)
    rw [List.drop_eq_getElem_cons hlt]
    refine Ev.step (fun k => rfl) (Ev.pos (by omega) (Ev.pos (by omega) (Ev.pos (by omega) ?_)))
    rw [rd69 hlt, e2]
    have ho : oddR cs[i] = decide (cs[i].f0.size < 1 ∨ 20 < cs[i].f0.size ∨ 20 < cs[i].f1.size) := rfl
    rw [List.any_cons]
    by_cases h1 : cs[i].f0.size < 1
    · rw [if_pos (by rw [ho, decide_eq_true (by omega)]; rfl)]
      exact Ev.pos (by omega) (Ev.now _)
    refine Ev.neg (by omega) ?_
    by_cases h2 : 20 < cs[i].f0.size
    · rw [if_pos (by rw [ho, decide_eq_true (by omega)]; rfl)]
      exact Ev.pos (by omega) (Ev.now _)
    refine Ev.neg (by omega) ?_
    by_cases h3 : 20 < cs[i].f1.size
    · rw [if_pos (by rw [ho, decide_eq_true (by omega)]; rfl)]
      exact Ev.pos (by omega) (Ev.now _)
    refine Ev.neg (by omega) ?_
    have hodd : oddR cs[i] = false := by rw [ho]; exact decide_eq_false (by omega)
    rw [hodd, Bool.false_or]
    have hs := set_ev now cs[i] (by omega)
    rw [refSet_step now ha] at hs
    have hsl := stepR_len now cs[i]
    exact Ev.bind hs (chg_l0 cs hc d (i + 1) (stepR now cs[i]) (by omega) (stepR_asc now ha _) (by omega))
theorem chg_ev (l cs : List S69) (ha : Asc l) (hl : l.length ≤ 1000) : Ev (fun n => bagnallref_rowsChanges.f n l cs) (chgF l cs) := by
  unfold bagnallref_rowsChanges.f chgF faultF
  by_cases h0 : 60 < cs.length
  · rw [if_pos h0, if_pos (by omega)]
    exact Ev.pos (by omega) (Ev.now _)
  rw [if_neg h0]
  refine Ev.neg (by omega) ?_
  have h := chg_l0 cs (by omega) cs.length 0 l (by omega) ha (by omega)
  rw [List.drop_zero] at h
  refine Ev.to h ?_
  by_cases h1 : cs.any oddR = true
  · rw [if_pos h1, if_pos h1, if_pos (by omega)]
  rw [if_neg h1, if_neg h1]
  by_cases h2 : 40 < (changedF l cs).length
  · rw [if_pos h2, if_pos h2, if_pos (by omega)]
  · rw [if_neg h2, if_neg h2, if_neg (by omega)]
theorem refRowsSet_ev (l cs : List S69) : Ev (fun n => bagnallref_RowsSet.f n l cs) (setF l cs) := by
  unfold bagnallref_RowsSet.f setF
  refine Ev.bind (fault_ev l) ?_
  by_cases h : rowsErr l = 0
  · rw [if_neg (by omega)]
    obtain ⟨hl, _, ha⟩ := rowsErr_zero h
    exact Ev.pos h (Ev.bind (chg_ev l cs ha (by omega)) (Ev.now _))
  · rw [if_pos h]
    exact Ev.neg h (Ev.now _)
theorem setF_len (l cs : List S69) : (setF l cs).1.length ≤ 1000 := by
  unfold setF
  split
  · simp
  · split
    · simp
    · rename_i h1 h2
      have := rowsErr_len (Decidable.not_not.1 h1)
      have h3 := changedF_len l cs
      have h4 : cs.length ≤ 60 := by
        replace h2 := Decidable.not_not.1 h2
        unfold faultF at h2
        by_cases hh : 60 < cs.length
        · rw [if_pos hh] at h2; omega
        · omega
      show (changedF l cs).length ≤ _
      omega
end Go.Proofs.Ytnjidfgjldkkcaa.Plain
/- The log's plain laws: what is framed is read; what is cut off is not. -/
namespace Go.Proofs.Ytnjidfgjldkkcaa.Plain
open Go.RowKit Go.Proofs.Ytnjidfgjldkkcaa.Q Go.Proofs.YtnjidfgjldkkcaaW.PrintWords
theorem frameF_cons (r : List Int) (last : Bool) : frameF r last = ((r.length : Int) % 256) :: flagOf last :: (r ++ [(sumsF 0 0 (frameB r last)).1 % 256, (sumsF 0 0 (frameB r last)).2 % 256]) := by
  unfold frameF
  rw [show frameB r last = ((r.length : Int) % 256) :: flagOf last :: r from rfl]
  rfl
theorem rd_get {b : List Int} {i : Nat} {x : Int} (h : b[i]? = some x) : rd b (i : Int) = x := by
  unfold rd
  rw [Int.toNat_natCast, List.getD_eq_getElem?_getD, h]
  rfl
theorem firstF_frame (r : List Int) (last : Bool) (rest : List Int) (h1 : 1 ≤ r.length) (h2 : r.length ≤ 60) : firstF (frameF r last ++ rest) = (r, last, r.length + 4) := by
  obtain ⟨b, hb⟩ : ∃ b, b = frameF r last ++ rest := ⟨_, rfl⟩
  have e : b = ((r.length : Int) % 256) :: flagOf last :: (r ++ ((sumsF 0 0 (frameB r last)).1 % 256 :: (sumsF 0 0 (frameB r last)).2 % 256 :: rest)) := by
    rw [hb, frameF_cons]
    simp
  have r0 : rd b 0 = (r.length : Int) := by
    rw [show (0 : Int) = ((0 : Nat) : Int) from rfl, rd_get (x := (r.length : Int) % 256) (by rw [e]; rfl)]
    omega
  have r1 : rd b 1 = flagOf last := by rw [show (1 : Int) = ((1 : Nat) : Int) from rfl]; exact rd_get (by rw [e]; rfl)
  have hk : kOf b = 2 + r.length := by unfold kOf; rw [r0, Int.toNat_natCast]
  have hl : b.length = r.length + 4 + rest.length := by rw [hb, List.length_append, frameF_length]
  have ht : b.take (2 + r.length) = frameB r last := by
    rw [e, show frameB r last = ((r.length : Int) % 256) :: flagOf last :: r from rfl, Nat.add_comm 2, List.take_succ_cons, List.take_succ_cons, List.take_left']
    rfl
  have s0 : rd b ((2 + r.length : Nat) : Int) = (sumsF 0 0 (frameB r last)).1 % 256 := rd_get (by
    rw [e, Nat.add_comm 2, List.getElem?_cons_succ, List.getElem?_cons_succ, List.getElem?_append_right (Nat.le_refl _), Nat.sub_self]
    rfl)
  have s1 : rd b ((2 + r.length + 1 : Nat) : Int) = (sumsF 0 0 (frameB r last)).2 % 256 := rd_get (by
    rw [e, show 2 + r.length + 1 = r.length + 1 + 1 + 1 by omega, List.getElem?_cons_succ, List.getElem?_cons_succ, List.getElem?_append_right (by omega), show r.length + 1 - r.length = 1 by omega]
    rfl)
  have hf : flagOf last ≤ 1 ∧ (flagOf last == 1) = last := by cases last <;> simp [flagOf]
  rw [← hb]
  unfold firstF
  rw [if_pos]
  · rw [hk, ht, r1, hf.2]
    show (r, last, 2 + r.length + 2) = _
    congr 2
    omega
  · unfold headOk sumOk
    rw [hk, ht, s0, s1, r0, r1, hl]
    simp only [Bool.and_eq_true, decide_eq_true_eq, beq_self_eq_true, and_true]
    have := hf.1
    omega
theorem firstF_cut (r : List Int) (last : Bool) (k : Nat) (h1 : 1 ≤ r.length) (h2 : r.length ≤ 60) (hk : k < r.length + 4) : firstF ((frameF r last).take k) = ([], false, 0) := by
  unfold firstF
  rw [if_neg]
  intro h
  rw [Bool.and_eq_true] at h
  obtain ⟨ha, hs⟩ := h
  unfold headOk at ha
  simp only [Bool.and_eq_true, decide_eq_true_eq] at ha
  have hl : ((frameF r last).take k).length = k := by rw [List.length_take, frameF_length]; omega
  have hk2 : 2 ≤ k := by have := ha.1.1.1; omega
  have r0 : rd ((frameF r last).take k) 0 = (r.length : Int) := by
    rw [show (0 : Int) = ((0 : Nat) : Int) from rfl, rd_get (x := (r.length : Int) % 256) (by rw [List.getElem?_take_of_lt (by omega), frameF_cons]; rfl)]
    omega
  unfold sumOk kOf at hs
  rw [r0, Int.toNat_natCast, hl] at hs
  simp only [Bool.and_eq_true, decide_eq_true_eq] at hs
  have := hs.1
  omega
theorem firstF_nil : firstF [] = ([], false, 0) := rfl
theorem readF_succ (b : List Int) (f : Nat) (bs : List (List (List Int))) (ba : List (List Int)) (used n : Nat) : readF b (f + 1) bs ba used n = if (firstF (b.drop n)).2.2 = 0 then (bs, used)
    else if (firstF (b.drop n)).2.1 = true then readF b f (bs ++ [ba ++ [(firstF (b.drop n)).1]]) [] (n + (firstF (b.drop n)).2.2) (n + (firstF (b.drop n)).2.2)
    else readF b f bs (ba ++ [(firstF (b.drop n)).1]) used (n + (firstF (b.drop n)).2.2) := rfl
/-- A whole batch is read. -/
theorem readF_batch (b : List Int) : ∀ (l : List (List Int)) (f : Nat) (bs : List (List (List Int))) (ba : List (List Int)) (used n : Nat) (rest : List Int), l ≠ [] → (∀ r ∈ l, 1 ≤ r.length ∧ r.length ≤ 60) → b.drop n = packF l ++ rest →
    readF b (f + l.length) bs ba used n = readF b f (bs ++ [ba ++ l]) [] (n + (packF l).length) (n + (packF l).length)
  | [], _, _, _, _, _, _, h, _, _ => absurd rfl h
  | r :: t, f, bs, ba, used, n, rest, _, hg, hd => by
    have hr := hg r List.mem_cons_self
    have hd' : b.drop n = frameF r t.isEmpty ++ (packF t ++ rest) := by rw [hd, packF, List.append_assoc]
    have hf := firstF_frame r t.isEmpty (packF t ++ rest) hr.1 hr.2
    rw [List.length_cons, ← Nat.add_assoc, readF_succ, hd', hf]
    simp only
    rw [if_neg (by omega)]
    by_cases ht : t = []
    · subst ht
      rw [if_pos (show ([] : List (List Int)).isEmpty = true from rfl)]
      simp only [packF, List.append_nil, List.length_nil, Nat.add_zero, frameF_length]
    · rw [if_neg (by simpa using ht)]
      have ih := readF_batch b t f bs (ba ++ [r]) used (n + (r.length + 4)) rest ht (fun x hx => hg x (List.mem_cons_of_mem _ hx)) (by rw [← List.drop_drop, hd', ← frameF_length r t.isEmpty, List.drop_left])
      rw [ih, List.append_assoc, List.singleton_append, packF, List.length_append, frameF_length]
      rw [show n + (r.length + 4) + (packF t).length = n + (r.length + 4 + (packF t).length) by omega]
/-- What is cut off is not read. -/
theorem readF_cut (b : List Int) : ∀ (l : List (List Int)) (f : Nat) (bs : List (List (List Int))) (ba : List (List Int)) (used n k : Nat), (∀ r ∈ l, 1 ≤ r.length ∧ r.length ≤ 60) → (k < (packF l).length ∨ k = 0) → b.drop n = (packF l).take k →
    readF b f bs ba used n = (bs, used)
  | l, 0, bs, ba, used, n, k, _, _, _ => rfl
  | [], f + 1, bs, ba, used, n, k, _, _, hd => by
    rw [readF_succ, hd, packF, List.take_nil, firstF_nil, if_pos rfl]
  | r :: t, f + 1, bs, ba, used, n, k, hg, hk, hd => by
    have hr := hg r List.mem_cons_self
    rw [readF_succ, hd, packF]
    by_cases hkr : k < r.length + 4
    · rw [List.take_append_of_le_length (by rw [frameF_length]; omega), firstF_cut r _ k hr.1 hr.2 hkr, if_pos rfl]
    · have hk' : k < (packF (r :: t)).length := by rcases hk with h | h <;> omega
      rw [packF, List.length_append, frameF_length] at hk'
      have ht : t ≠ [] := by rintro rfl; simp [packF] at hk'; omega
      have e : List.take k (frameF r t.isEmpty ++ packF t) = frameF r t.isEmpty ++ (packF t).take (k - (r.length + 4)) := by rw [List.take_append, List.take_of_length_le (by rw [frameF_length]; omega), frameF_length]
      rw [e, firstF_frame r _ _ hr.1 hr.2]
      simp only
      rw [if_neg (by omega), if_neg (by simpa using ht)]
      exact readF_cut b t f bs (ba ++ [r]) used (n + (r.length + 4)) (k - (r.length + 4)) (fun x hx => hg x (List.mem_cons_of_mem _ hx)) (.inl (by omega)) (by rw [← List.drop_drop, hd, packF, e, ← frameF_length r t.isEmpty, List.drop_left])
theorem packF_ge : ∀ l : List (List Int), l.length ≤ (packF l).length
  | [] => Nat.zero_le _
  | r :: t => by
    have := packF_ge t
    rw [packF, List.length_append, frameF_length, List.length_cons]
    omega
def FileOk (F : List (List (List Int))) : Prop := ∀ l ∈ F, l ≠ [] ∧ ∀ r ∈ l, 1 ≤ r.length ∧ r.length ≤ 60
def flatF (F : List (List (List Int))) : List Int := F.flatMap packF
theorem readF_all (b : List Int) : ∀ (F : List (List (List Int))) (f : Nat) (bs : List (List (List Int))) (n : Nat) (rest : List Int), FileOk F → b.drop n = flatF F ++ rest →
    readF b (f + (F.map List.length).sum) bs [] n n = readF b f (bs ++ F) [] (n + (flatF F).length) (n + (flatF F).length)
  | [], f, bs, n, rest, _, _ => by simp [flatF]
  | l :: F, f, bs, n, rest, hF, hd => by
    have hl := hF l List.mem_cons_self
    have e : flatF (l :: F) = packF l ++ flatF F := rfl
    rw [e, List.append_assoc] at hd
    rw [List.map_cons, List.sum_cons, show f + (l.length + (F.map List.length).sum) = (f + (F.map List.length).sum) + l.length by omega]
    rw [readF_batch b l _ bs [] n n (flatF F ++ rest) hl.1 hl.2 hd, List.nil_append]
    rw [readF_all b F f (bs ++ [l]) (n + (packF l).length) rest (fun x hx => hF x (List.mem_cons_of_mem _ hx)) (by rw [← List.drop_drop, hd, List.drop_left])]
    rw [List.append_assoc, List.singleton_append, e, List.length_append, Nat.add_assoc]
theorem flatF_ge : ∀ F : List (List (List Int)), (F.map List.length).sum ≤ (flatF F).length
  | [] => Nat.zero_le _
  | l :: F => by
    have h1 := packF_ge l
    have h2 := flatF_ge F
    rw [show flatF (l :: F) = packF l ++ flatF F from rfl, List.map_cons, List.sum_cons, List.length_append]
    omega
/-- A file with a batch behind it that is cut off: the file's batches. -/
theorem readF_file (F : List (List (List Int))) (l : List (List Int)) (k : Nat) (hF : FileOk F) (hg : ∀ r ∈ l, 1 ≤ r.length ∧ r.length ≤ 60) (hk : k < (packF l).length ∨ k = 0) :
    readF (flatF F ++ (packF l).take k) ((flatF F ++ (packF l).take k).length + 1) [] [] 0 0 = (F, (flatF F).length) := by
  obtain ⟨b, hb⟩ : ∃ b, b = flatF F ++ (packF l).take k := ⟨_, rfl⟩
  rw [← hb]
  have h1 := flatF_ge F
  have h2 : (flatF F).length ≤ b.length := by rw [hb, List.length_append]; omega
  have := readF_all b F (b.length + 1 - (F.map List.length).sum) [] 0 ((packF l).take k) hF (by rw [List.drop_zero, hb])
  rw [show b.length + 1 - (F.map List.length).sum + (F.map List.length).sum = b.length + 1 by omega] at this
  rw [this, List.nil_append, Nat.zero_add]
  exact readF_cut b l _ F [] _ _ k hg hk (by rw [hb, List.drop_left])
end Go.Proofs.Ytnjidfgjldkkcaa.Plain
/- A store's invariant: its file is a row of batches, and these make its table. -/
namespace Go.Proofs.Ytnjidfgjldkkcaa.Plain
open Go.RowKit Go.Proofs.Ytnjidfgjldkkcaa.Q Go.Proofs.YtnjidfgjldkkcaaW.PrintWords
theorem str_bytesOf (s : ByteArray) : strOfNums (bytesOf s) = s := by
  rw [← toList_inj, toList_str, Go.ByteArray.toList_eq]
  unfold bytesOf
  rw [List.map_map]
  conv => rhs; rw [← List.map_id s.data.toList]
  refine List.map_congr_left fun b _ => ?_
  simp
theorem bytesOf_byte (s : ByteArray) : ∀ x ∈ bytesOf s, 0 ≤ x ∧ x ≤ 255 := by
  intro x hx
  unfold bytesOf at hx
  obtain ⟨b, _, rfl⟩ := List.mem_map.1 hx
  have := b.toNat_lt
  omega
def OkR (r : S69) : Prop := 1 ≤ r.f0.size ∧ r.f0.size ≤ 20 ∧ r.f1.size ≤ 20
theorem okR_of {cs : List S69} (h : cs.any oddR = false) : ∀ r ∈ cs, OkR r := fun r hr => by
  have := List.any_eq_false.1 h r hr
  unfold oddR at this
  rw [decide_eq_true_eq] at this
  exact ⟨by omega, by omega, by omega⟩
theorem recordF_length (r : S69) : (recordF r).length = r.f0.size + r.f1.size + 1 := by
  unfold recordF
  rw [List.length_cons, List.length_append, bytesOf_length, bytesOf_length]
theorem rowF_record (r : S69) (h : OkR r) : rowF (recordF r) = (r, true) := by
  obtain ⟨h1, h2, h3⟩ := h
  have r0 : rd (recordF r) 0 = (r.f0.size : Int) := by
    rw [show (0 : Int) = ((0 : Nat) : Int) from rfl]
    exact rd_get rfl
  unfold rowF
  rw [r0, Int.toNat_natCast, recordF_length, if_neg (by omega)]
  have e1 : ((recordF r).take (r.f0.size + 1)).drop 1 = bytesOf r.f0 := by
    unfold recordF
    rw [List.take_succ_cons, List.drop_succ_cons, List.drop_zero, List.take_left' (bytesOf_length _)]
  have e2 : (recordF r).drop (r.f0.size + 1) = bytesOf r.f1 := by
    unfold recordF
    rw [List.drop_succ_cons, List.drop_left' (bytesOf_length _)]
  rw [e1, e2, str_bytesOf, str_bytesOf]
theorem rowsOf_records : ∀ (cs acc : List S69), (∀ r ∈ cs, OkR r) → rowsOf acc (cs.map recordF) = some (acc ++ cs)
  | [], acc, _ => by simp [rowsOf]
  | r :: t, acc, h => by
    rw [List.map_cons]
    unfold rowsOf
    rw [rowF_record r (h r List.mem_cons_self), if_pos rfl, rowsOf_records t _ (fun x hx => h x (List.mem_cons_of_mem _ hx)), List.append_assoc, List.singleton_append]
/-- Batches, one behind the other, that may be. -/
def GoodL : List S69 → List (List S69) → Prop
  | _, [] => True
  | t, cs :: F => cs ≠ [] ∧ (∀ r ∈ cs, OkR r) ∧ (changedF t cs).length ≤ 40 ∧ GoodL (changedF t cs) F
def tableL (t : List S69) (F : List (List S69)) : List S69 := F.foldl changedF t
theorem goodL_snoc : ∀ (F : List (List S69)) (t cs : List S69), GoodL t F → cs ≠ [] → (∀ r ∈ cs, OkR r) → (changedF (tableL t F) cs).length ≤ 40 → GoodL t (F ++ [cs])
  | [], _, _, _, h1, h2, h3 => ⟨h1, h2, h3, trivial⟩
  | _ :: F, _, _, h, h1, h2, h3 => ⟨h.1, h.2.1, h.2.2.1, goodL_snoc F _ _ h.2.2.2 h1 h2 h3⟩
theorem recF_good : ∀ (F : List (List S69)) (t : List S69), GoodL t F → recF t (F.map (·.map recordF)) = some (tableL t F)
  | [], t, _ => rfl
  | c :: F, t, h => by
    rw [List.map_cons, recF_cons, rowsOf_records c [] h.2.1, List.nil_append]
    simp only
    rw [if_neg (by have := h.2.2.1; omega)]
    exact recF_good F _ h.2.2.2
theorem fileOk_good : ∀ (F : List (List S69)) (t : List S69), GoodL t F → FileOk (F.map (·.map recordF))
  | [], _, _ => fun l hl => by simp at hl
  | c :: F, t, h => fun l hl => by
    rcases List.mem_cons.1 hl with rfl | hl
    · refine ⟨by simpa using h.1, fun r hr => ?_⟩
      obtain ⟨q, hq, rfl⟩ := List.mem_map.1 hr
      have := h.2.1 q hq
      rw [recordF_length]
      exact ⟨by omega, by have h1 := this.2.1; have h2 := this.2.2; omega⟩
    · exact fileOk_good F _ h.2.2.2 l hl
def dataL (F : List (List S69)) : List Int := F.flatMap batchF
theorem dataL_flat (F : List (List S69)) : dataL F = flatF (F.map (·.map recordF)) := by
  unfold dataL flatF batchF
  rw [List.flatMap_map]
theorem readS_good (F : List (List S69)) (cs : List S69) (k : Nat) (hF : GoodL [] F) (hc : ∀ r ∈ cs, OkR r) (hk : k < (batchF cs).length ∨ k = 0) : readS (dataL F ++ (batchF cs).take k) = (tableL [] F, ((dataL F).length : Int), 0) := by
  have := readF_file (F.map (·.map recordF)) (cs.map recordF) k (fileOk_good F [] hF) (fun r hr => by
    obtain ⟨q, hq, rfl⟩ := List.mem_map.1 hr
    have := hc q hq
    rw [recordF_length]
    exact ⟨by omega, by have h1 := this.2.1; have h2 := this.2.2; omega⟩) hk
  rw [← dataL_flat] at this
  unfold readS
  rw [show packF (cs.map recordF) = batchF cs from rfl] at this
  rw [this, recF_good F [] hF]
/-- How much room rows take in a file. -/
def room (l : List S69) : Nat := (l.map fun r => r.f0.size + r.f1.size + 5).sum
theorem room_cons (r : S69) (t : List S69) : room (r :: t) = r.f0.size + r.f1.size + 5 + room t := by unfold room; rw [List.map_cons, List.sum_cons]
theorem room_append : ∀ l m : List S69, room (l ++ m) = room l + room m
  | [], m => by simp [room]
  | r :: t, m => by rw [List.cons_append, room_cons, room_cons, room_append t m]; omega
theorem batchF_room : ∀ l : List S69, (batchF l).length = room l
  | [] => rfl
  | r :: t => by
    have := batchF_room t
    unfold batchF at this ⊢
    rw [List.map_cons, packF, List.length_append, frameF_length, recordF_length, this, room_cons]
theorem room_erase : ∀ (l : List S69) (i : Nat), room (l.eraseIdx i) ≤ room l
  | [], _ => by simp
  | r :: t, 0 => by rw [List.eraseIdx_cons_zero, room_cons]; omega
  | r :: t, i + 1 => by have := room_erase t i; rw [List.eraseIdx_cons_succ, room_cons, room_cons]; omega
theorem room_set : ∀ (l : List S69) (i : Nat) (c : S69), room (l.set i c) ≤ room l + (c.f0.size + c.f1.size + 5)
  | [], i, c => by simp
  | r :: t, 0, c => by rw [List.set_cons_zero, room_cons, room_cons]; omega
  | r :: t, i + 1, c => by have := room_set t i c; rw [List.set_cons_succ, room_cons, room_cons]; omega
theorem room_step (l : List S69) (c : S69) : room (stepR l c) ≤ room l + (c.f0.size + c.f1.size + 5) := by
  unfold stepR
  repeat' split
  · have := room_erase l (placeI l c.f0); omega
  · exact room_set l _ c
  · omega
  · unfold insRow
    rw [room_append, room_cons]
    have := room_append (l.take (placeI l c.f0)) (l.drop (placeI l c.f0))
    rw [List.take_append_drop] at this
    omega
theorem room_changed : ∀ (cs l : List S69), room (changedF l cs) ≤ room l + room cs
  | [], l => Nat.le_refl _
  | c :: t, l => by
    have h1 := room_changed t (stepR l c)
    have h2 := room_step l c
    rw [room_cons]
    show room (changedF (stepR l c) t) ≤ _
    omega
theorem room_table : ∀ (F : List (List S69)) (t : List S69), room (tableL t F) ≤ room t + (dataL F).length
  | [], t => Nat.le_refl _
  | c :: F, t => by
    have h1 := room_table F (changedF t c)
    have h2 := room_changed c t
    have h3 := batchF_room c
    rw [show dataL (c :: F) = batchF c ++ dataL F from rfl, List.length_append]
    show room (tableL (changedF t c) F) ≤ _
    omega
/-- A row of a table: it may be, and it holds something. -/
def FullR (r : S69) : Prop := OkR r ∧ ¬ r.f1.toList = []
theorem full_step (l : List S69) (c : S69) (hl : ∀ r ∈ l, FullR r) (hc : OkR c) : ∀ r ∈ stepR l c, FullR r := by
  intro r hr
  unfold stepR at hr
  repeat' split at hr
  · exact hl r (List.mem_of_mem_eraseIdx hr)
  · rename_i h
    rcases List.mem_or_eq_of_mem_set hr with h1 | rfl
    · exact hl r h1
    · exact ⟨hc, h⟩
  · exact hl r hr
  · rename_i h
    unfold insRow at hr
    rcases List.mem_append.1 hr with h1 | h1
    · exact hl r (List.mem_of_mem_take h1)
    · rcases List.mem_cons.1 h1 with rfl | h1
      · exact ⟨hc, h⟩
      · exact hl r (List.mem_of_mem_drop h1)
theorem full_changed : ∀ (cs l : List S69), (∀ r ∈ l, FullR r) → (∀ r ∈ cs, OkR r) → ∀ r ∈ changedF l cs, FullR r
  | [], _, hl, _ => hl
  | c :: t, l, hl, hc => full_changed t (stepR l c) (full_step l c hl (hc c List.mem_cons_self)) (fun x hx => hc x (List.mem_cons_of_mem _ hx))
theorem full_table : ∀ (F : List (List S69)) (t : List S69), GoodL t F → (∀ r ∈ t, FullR r) → ∀ r ∈ tableL t F, FullR r
  | [], _, _, h => h
  | c :: F, t, hF, h => full_table F (changedF t c) hF.2.2.2 (full_changed c t h hF.2.1)
theorem asc_table : ∀ (F : List (List S69)) (t : List S69), Asc t → Asc (tableL t F)
  | [], _, h => h
  | c :: F, t, h => asc_table F (changedF t c) (changed_asc c t h)
theorem len_table : ∀ (F : List (List S69)) (t : List S69), GoodL t F → t.length ≤ 40 → (tableL t F).length ≤ 40
  | [], _, _, h => h
  | c :: F, t, hF, _ => len_table F (changedF t c) hF.2.2.2 hF.2.2.1
theorem step_last : ∀ (l : List S69) (c : S69), Asc (l ++ [c]) → ¬ c.f1.toList = [] → stepR l c = l ++ [c]
  | [], c, _, h => by
    unfold stepR
    rw [if_neg (by unfold placeB; simp), if_neg h]
    rfl
  | r :: t, c, ha, h => by
    rw [List.cons_append] at ha
    obtain ⟨h1, h2⟩ := List.pairwise_cons.1 ha
    have ha' : Asc (r :: t) := by
      have := List.Pairwise.sublist (List.sublist_append_left (r :: t) [c]) ha
      exact this
    rw [stepR_cons ha' c (h1 c (by simp)), step_last t c h2 h]
    rfl
theorem changed_self : ∀ (cs l : List S69), Asc (l ++ cs) → (∀ r ∈ cs, FullR r) → changedF l cs = l ++ cs
  | [], l, _, _ => by simp [changedF]
  | c :: t, l, ha, h => by
    have ha' : Asc (l ++ [c]) := by
      rw [show l ++ c :: t = (l ++ [c]) ++ t by simp] at ha
      exact List.Pairwise.sublist (List.sublist_append_left _ _) ha
    show changedF (stepR l c) t = _
    rw [step_last l c ha' (h c List.mem_cons_self).2, changed_self t (l ++ [c]) (by simpa using ha) (fun x hx => h x (List.mem_cons_of_mem _ hx))]
    simp
/-- A store between its acts. -/
def SInv (data : List Int) (t : List S69) : Prop := ∃ F, GoodL [] F ∧ data = dataL F ∧ t = tableL [] F ∧ data.length ≤ 1200
theorem SInv.nil : SInv [] [] := ⟨[], trivial, rfl, rfl, by simp⟩
theorem SInv.asc {data : List Int} {t : List S69} (h : SInv data t) : Asc t := by
  obtain ⟨F, _, _, rfl, _⟩ := h
  exact asc_table F [] List.Pairwise.nil
theorem SInv.len {data : List Int} {t : List S69} (h : SInv data t) : t.length ≤ 40 := by
  obtain ⟨F, hF, _, rfl, _⟩ := h
  exact len_table F [] hF (by simp)
theorem SInv.full {data : List Int} {t : List S69} (h : SInv data t) : ∀ r ∈ t, FullR r := by
  obtain ⟨F, hF, _, rfl, _⟩ := h
  exact full_table F [] hF (by simp)
theorem SInv.batch {data : List Int} {t : List S69} (h : SInv data t) : (batchF t).length ≤ 1200 := by
  obtain ⟨F, _, rfl, rfl, hl⟩ := h
  have := room_table F []
  rw [batchF_room]
  simp only [room, List.map_nil, List.sum_nil] at this ⊢
  omega
theorem frame_byte (r : List Int) (last : Bool) (h : ∀ x ∈ r, 0 ≤ x ∧ x ≤ 255) : ∀ x ∈ frameF r last, 0 ≤ x ∧ x ≤ 255 := by
  intro x hx
  rw [frameF_cons] at hx
  rcases List.mem_cons.1 hx with rfl | hx
  · omega
  rcases List.mem_cons.1 hx with rfl | hx
  · cases last <;> simp [flagOf]
  rcases List.mem_append.1 hx with hx | hx
  · exact h x hx
  · simp only [List.mem_cons, List.not_mem_nil, or_false] at hx
    rcases hx with rfl | rfl <;> omega
theorem batch_byte : ∀ (l : List S69), (∀ r ∈ l, OkR r) → ∀ x ∈ batchF l, 0 ≤ x ∧ x ≤ 255
  | [], _, x, hx => by simp [batchF, packF] at hx
  | r :: t, h, x, hx => by
    unfold batchF at hx
    rw [List.map_cons, packF] at hx
    rcases List.mem_append.1 hx with hx | hx
    · refine frame_byte _ _ ?_ x hx
      intro y hy
      unfold recordF at hy
      rcases List.mem_cons.1 hy with rfl | hy
      · have := (h r List.mem_cons_self).2.1; omega
      · rcases List.mem_append.1 hy with hy | hy <;> exact bytesOf_byte _ y hy
    · exact batch_byte t (fun q hq => h q (List.mem_cons_of_mem _ hq)) x hx
theorem data_byte : ∀ (F : List (List S69)) (t : List S69), GoodL t F → ∀ x ∈ dataL F, 0 ≤ x ∧ x ≤ 255
  | [], _, _, x, hx => by simp [dataL] at hx
  | c :: F, t, h, x, hx => by
    rcases List.mem_append.1 (show x ∈ batchF c ++ dataL F from hx) with hx | hx
    · exact batch_byte c h.2.1 x hx
    · exact data_byte F _ h.2.2.2 x hx
theorem SInv.byte {data : List Int} {t : List S69} (h : SInv data t) : ∀ x ∈ data, 0 ≤ x ∧ x ≤ 255 := by
  obtain ⟨F, hF, rfl, _, _⟩ := h
  exact data_byte F [] hF
theorem SInv.commit {data : List Int} {t cs : List S69} (h : SInv data t) (hc : sfaultF data t cs = 0) : SInv (data ++ batchF cs) (changedF t cs) := by
  obtain ⟨F, hF, rfl, rfl, hl⟩ := h
  obtain ⟨h1, h2, h3⟩ := sfaultF_ok hc
  obtain ⟨h4, h5, h6⟩ := faultF_ok h2
  refine ⟨F ++ [cs], goodL_snoc F [] cs hF (by rintro rfl; exact h1 rfl) (okR_of h5) h6, ?_, ?_, by rw [List.length_append]; omega⟩
  · unfold dataL; rw [List.flatMap_append]; simp
  · unfold tableL; rw [List.foldl_append]; rfl
theorem SInv.pack {data : List Int} {t : List S69} (h : SInv data t) : SInv (batchF t) t := by
  have hb := h.batch
  have ha := h.asc
  have hf := h.full
  have hl := h.len
  by_cases ht : t = []
  · subst ht; exact SInv.nil
  have e : changedF [] t = t := changed_self t [] ha hf
  exact ⟨[t], ⟨ht, fun r hr => (hf r hr).1, by rw [e]; exact hl, trivial⟩, by simp [dataL], by unfold tableL; exact e.symm, hb⟩
theorem SInv.read {data : List Int} {t cs : List S69} (h : SInv data t) (hc : sfaultF data t cs = 0) (k : Nat) (hk : k < (batchF cs).length) : readS (data ++ (batchF cs).take k) = (t, (data.length : Int), 0) := by
  obtain ⟨F, hF, rfl, rfl, hl⟩ := h
  exact readS_good F cs k hF (okR_of (faultF_ok (sfaultF_ok hc).2.1).2.1) (.inl hk)
theorem SInv.whole {data : List Int} {t : List S69} (h : SInv data t) : readS data = (t, (data.length : Int), 0) := by
  obtain ⟨F, hF, rfl, rfl, hl⟩ := h
  have := readS_good F [] 0 hF (by simp) (.inr rfl)
  rwa [List.take_zero, List.append_nil] at this
end Go.Proofs.Ytnjidfgjldkkcaa.Plain
-- Written for this seat by a program of its session (xp.py over the kit's printer).
namespace Go.Proofs.Ytnjidfgjldkkcaa.Q
open Go.RowKit Go.Proofs.YtnjidfgjldkkcaaW.PrintWords Go.Proofs.YtnjidfgjldkkcaaW.PrintLast Go.Proofs.YtnjidfgjldkkcaaW.PrintMore
attribute [local go_sem] max2_int min2_int max_two min_two max_three min_three max_four min_four xq_geq xq_leq xq_gtr   -- for this text's walks alone
set_option linter.unusedVariables false
set_option linter.unusedSimpArgs false

-- NOT PRINTED: function 80 (api_Row_string)

/-! ### rows_Beginning: function 46 -/
def rows_Beginning.f (k : Nat) (l0 : List (S69)) (a1 : ByteArray) : Option ((List (S69))) := (rows_place.f l0 a1).bind fun bt101 => ((rows_Next.f k a1).bind fun t103 => (if t103.toList = ([] : List UInt8) then (if 0 ≤ bt101.1 then (if bt101.1 ≤ (l0.length : Int) then (if (l0.length : Int) ≤ (l0.length : Int) then ((api_Row_67.f ((l0.take ((l0.length : Int) : Int).toNat).drop (bt101.1 : Int).toNat)).bind fun t108 => (some t108)) else (none)) else (none)) else (none)) else ((rows_place.f l0 t103).bind fun bt111 => (if 0 ≤ bt101.1 then (if bt101.1 ≤ bt111.1 then (if bt111.1 ≤ (l0.length : Int) then ((api_Row_67.f ((l0.take (bt111.1 : Int).toNat).drop (bt101.1 : Int).toNat)).bind fun t117 => (some t117)) else (none)) else (none)) else (none)))))
theorem rows_Beginning.mono : ∀ a0 a1 k, LeO (rows_Beginning.f k a0 a1) (rows_Beginning.f (k + 1) a0 a1) := by
  intro a0 a1 k
  unfold rows_Beginning.f
  repeat' first
      | (with_reducible exact rows_Next.mono _ _)
      | (with_reducible exact LeO.refl _)
      | (with_reducible exact LeO.none _)
      | (with_reducible refine LeO.ite ?_ ?_)
      | (with_reducible refine LeO.bind ?_ (fun _ => ?_))
      | exact rows_Next.mono _ _
      | exact LeO.none _
      | refine LeO.ite ?_ ?_
      | refine LeO.bind ?_ (fun _ => ?_)
set_option maxHeartbeats 8000000 in
set_option maxRecDepth 100000 in
theorem rows_Beginning.calls (k : Nat) (A0 : Option Addr) (c0 : Nat) (l0 : List (S69)) (a1 : ByteArray) (r : List (S69)) (w : World) (hr0 : Kd.C k69 w A0 l0.length l0) (hc0 : l0.length ≤ c0) (h : rows_Beginning.f k l0 a1 = some r) :
    Calls Try.prog 46 #[.slice A0 l0.length c0, .string a1] w fun e w' => ∃ v0_ : Value, e = .returned (v0_) ∧ Kd.R k69 69 w' w.heap.size (fun _ => True) v0_ r ∧ Below w.heap.size w w' := by
  have HR0 := Aside0.mk hr0
  have HC0 := Aside0.mk hc0
  clear hr0 hc0
  have HB := Aside0.mk (Below.refl w.heap.size w)
  have H : ((rows_place.f l0 a1).bind fun bt101 => ((rows_Next.f k a1).bind fun t103 => (if t103.toList = ([] : List UInt8) then (if 0 ≤ bt101.1 then (if bt101.1 ≤ (l0.length : Int) then (if (l0.length : Int) ≤ (l0.length : Int) then ((api_Row_67.f ((l0.take ((l0.length : Int) : Int).toNat).drop (bt101.1 : Int).toNat)).bind fun t108 => (some t108)) else (none)) else (none)) else (none)) else ((rows_place.f l0 t103).bind fun bt111 => (if 0 ≤ bt101.1 then (if bt101.1 ≤ bt111.1 then (if bt111.1 ≤ (l0.length : Int) then ((api_Row_67.f ((l0.take (bt111.1 : Int).toNat).drop (bt101.1 : Int).toNat)).bind fun t117 => (some t117)) else (none)) else (none)) else (none)))))) = some r := h
  clear h
  replace H := Option.bind_eq_some_iff.mp H
  obtain ⟨⟨t101, t102⟩, A30, H⟩ := H
  replace H : ((rows_Next.f k a1).bind fun t103 => (if t103.toList = ([] : List UInt8) then (if 0 ≤ t101 then (if t101 ≤ (l0.length : Int) then (if (l0.length : Int) ≤ (l0.length : Int) then ((api_Row_67.f ((l0.take ((l0.length : Int) : Int).toNat).drop (t101 : Int).toNat)).bind fun t108 => (some t108)) else (none)) else (none)) else (none)) else ((rows_place.f l0 t103).bind fun bt111 => (if 0 ≤ t101 then (if t101 ≤ bt111.1 then (if bt111.1 ≤ (l0.length : Int) then ((api_Row_67.f ((l0.take (bt111.1 : Int).toNat).drop (t101 : Int).toNat)).bind fun t117 => (some t117)) else (none)) else (none)) else (none))))) = some r := H
  have A3 := Aside0.mk A30
  clear A30
  replace H := Option.bind_eq_some_iff.mp H
  obtain ⟨t103, A40, H⟩ := H
  replace H : (if t103.toList = ([] : List UInt8) then (if 0 ≤ t101 then (if t101 ≤ (l0.length : Int) then (if (l0.length : Int) ≤ (l0.length : Int) then ((api_Row_67.f ((l0.take ((l0.length : Int) : Int).toNat).drop (t101 : Int).toNat)).bind fun t108 => (some t108)) else (none)) else (none)) else (none)) else ((rows_place.f l0 t103).bind fun bt111 => (if 0 ≤ t101 then (if t101 ≤ bt111.1 then (if bt111.1 ≤ (l0.length : Int) then ((api_Row_67.f ((l0.take (bt111.1 : Int).toNat).drop (t101 : Int).toNat)).bind fun t117 => (some t117)) else (none)) else (none)) else (none)))) = some r := H
  have A4 := Aside0.mk A40
  clear A40
  by_cases c5 : t103.toList = ([] : List UInt8)
  · rw [if_pos c5] at H
    have c5b0 : (t103.toList == ([] : List UInt8)) = true := beq_iff_eq.mpr c5
    have c5b1 : (t103.toList != ([] : List UInt8)) = false := bne_eq_false_iff_eq.mpr c5
    clear c5
    by_cases c6 : 0 ≤ t101
    · rw [if_pos c6] at H
      have c6b0 := eq_true c6
      have c6b1 : decide (0 ≤ t101) = true := decide_eq_true c6
      clear c6
      by_cases c7 : t101 ≤ (l0.length : Int)
      · rw [if_pos c7] at H
        have c7b0 := eq_true c7
        have c7b1 : decide (t101 ≤ (l0.length : Int)) = true := decide_eq_true c7
        clear c7
        by_cases c8 : (l0.length : Int) ≤ (l0.length : Int)
        · rw [if_pos c8] at H
          have c8b0 := eq_true c8
          have c8b1 : decide ((l0.length : Int) ≤ (l0.length : Int)) = true := decide_eq_true c8
          clear c8
          obtain ⟨y104, hy104⟩ : ∃ y_ : List (S69), y_ = ((l0.take ((l0.length : Int) : Int).toNat).drop (t101 : Int).toNat) := ⟨_, rfl⟩
          replace H : ((api_Row_67.f y104).bind fun t108 => (some t108)) = some r := by first | (rw [hy104]; with_reducible exact H) | (have H2_ := (Option.bind_some _ _).symm.trans H; rw [hy104]; with_reducible exact H2_) | (have H2_ := (Option.bind_some _ _).symm.trans H; with_reducible exact H2_) | with_reducible exact H | (rw [hy104]; exact H) | exact H
          have Ny104 := Aside0.mk hy104
          clear hy104
          replace H := Option.bind_eq_some_iff.mp H
          obtain ⟨t108, A90, H⟩ := H
          replace H : (some t108) = some r := H
          have A9 := Aside0.mk A90
          clear A90
          obtain rfl := Option.some.inj H
          go_enter Try.func46, Try.ntmps46
          go_wp2_with (first | ((with_reducible refine gate_callee (f := 66) rfl ?_); refine goesL_ (some 12) rfl rfl Try.func66 (by kernel_rfl) rfl #[.slice A0 l0.length c0, .string a1] rfl (by (try simp only [List.map_toArray, List.map_cons, List.map_nil]); first | done | rfl | (simp only [List.length_drop, List.length_take]; rfl)) ?_; (with_reducible refine (rows_place.calls _ _ l0 a1 t101 t102 _ ?side1 ?side2 A3.out).mono ?_); (case side1 => repeat (first | exact HR0.out | (with_reducible refine Kd.C_alloc ?_ _) | (with_reducible refine Kd.C_drewN ?_ _) | (with_reducible refine Kd.C_drew ?_))); (case side2 => exact HC0.out); rintro e w10 ⟨rfl, hb⟩; refine ⟨_, rfl, ?_⟩; have n0_ := Aside0.mk (below_step (by repeat (first | (with_reducible first | exact HB.out | apply below_alloc | apply pw_below_drewN | apply below_drew1) | exact HB.out)) hb); clear HB; have HB := n0_; clear n0_; (try clear hb); (try clear hb2); (try clear hk); (try clear hi)) | ((with_reducible refine gate_callee (f := 16) rfl ?_); refine goesL_ (some 18) rfl rfl Try.func16 (by kernel_rfl) rfl #[.string a1] rfl (by (try simp only [List.map_toArray, List.map_cons, List.map_nil]); first | done | rfl | (simp only [List.length_drop, List.length_take]; rfl)) ?_; (with_reducible refine (rows_Next.calls k a1 t103 _ A4.out).mono ?_); rintro e w11 ⟨rfl, hb⟩; refine ⟨_, rfl, ?_⟩; have n0_ := Aside0.mk (below_step (by repeat (first | (with_reducible first | exact HB.out | apply below_alloc | apply pw_below_drewN | apply below_drew1) | exact HB.out)) hb); clear HB; have HB := n0_; clear n0_; (try clear hb); (try clear hb2); (try clear hk); (try clear hi); have q12 : ((l0.length : Int) : Int) ≤ ((l0.length : Int) : Int) := of_decide_eq_true (by first | (with_reducible assumption) | assumption); obtain ⟨i012, hi012, _, hsz12, _⟩ := info_parts info69; have hroom12 : l0.length ≤ c0 := HC0.out; have hC12 : Kd.C k69 _ A0 l0.length l0 := HR0.out; have ql12 : (t101 : Int) ≤ ((l0.length : Int) : Int) := of_decide_eq_true (by first | (with_reducible assumption) | assumption); have q012 : (0 : Int) ≤ (t101 : Int) := of_decide_eq_true (by first | (with_reducible assumption) | assumption); have hcut12 := cut_mid (P := Try.prog) 24 69 .i64 .i64 Try.underlying24 hi012 2 hsz12 A0 l0.length c0 t101 (l0.length : Int) q012 ql12 q12 hroom12; have hr12 := Kd.C_mid (lo := (t101 : Int).toNat) (hi := ((l0.length : Int) : Int).toNat) (c := c0) hC12 (by omega) (by omega) hroom12; obtain ⟨A12, hA12⟩ : ∃ A1, A1 = (if c0 = (t101 : Int).toNat then A0 else (A0 : Option Addr).map (·.add ((t101 : Int).toNat * 2))) := ⟨_, rfl⟩; obtain ⟨c12, hc12⟩ : ∃ c1, c1 = c0 - (t101 : Int).toNat := ⟨_, rfl⟩; have hy12 : y104.length = ((l0.length : Int) : Int).toNat - (t101 : Int).toNat := (by rw [Ny104.out, List.length_drop, List.length_take] <;> omega); rw [show ((l0).take ((l0.length : Int) : Int).toNat).drop (t101 : Int).toNat = y104 from Ny104.out.symm] at hr12; replace hr12 : Kd.C k69 _ A12 y104.length y104 := (by rw [hA12]; exact hr12); rw [← hy12, ← hA12, ← hc12] at hcut12; have HR107 := Aside0.mk hr12; have HC107 := Aside0.mk (show y104.length ≤ c12 from by rw [hy12, hc12]; exact Nat.sub_le_sub_right (Nat.le_trans (by omega) hroom12) _); clear hr12 hC12 hroom12 hi012 hsz12 hc12; have KY12 := Aside0.mk hy12; have KA12 := Aside0.mk hA12; clear hy12 hA12; replace q12 := eq_true q12) | ((with_reducible refine gate_callee (f := 67) rfl ?_); refine goesL_ (some 31) rfl rfl Try.func67 (by kernel_rfl) rfl #[.slice A12 y104.length c12] rfl (by (try simp only [List.map_toArray, List.map_cons, List.map_nil]); first | done | rfl | (simp only [List.length_drop, List.length_take]; rfl)) ?_; (with_reducible refine (api_Row_67.calls _ _ y104 t108 _ ?side1 ?side2 A9.out).mono ?_); (case side1 => repeat (first | exact (Kd.C_below HR107.out HB.out) | (with_reducible refine Kd.C_alloc ?_ _) | (with_reducible refine Kd.C_drewN ?_ _) | (with_reducible refine Kd.C_drew ?_))); (case side2 => exact HC107.out); rintro e w13 ⟨v109, rfl, ho0, hb⟩; refine ⟨_, rfl, ?_⟩; have n0_ := Aside0.mk (Kd.R_lower ho0 (below_size (by repeat (first | (with_reducible first | exact HB.out | apply below_alloc | apply pw_below_drewN | apply below_drew1) | exact HB.out)))); have n1_ := Aside0.mk (below_step (by repeat (first | (with_reducible first | exact HB.out | apply below_alloc | apply pw_below_drewN | apply below_drew1) | exact HB.out)) hb); clear HB; have HO110 := n0_; have HB := n1_; clear n0_ n1_; (try clear hb); (try clear hb2); (try clear hk); (try clear hi); (try clear ho0)))
          go_ret
          exact ⟨_, by first | rfl | (simp [errW_none, errW_some] <;> rfl) | (simp [*, errW_none, errW_some] <;> rfl), by (with_reducible repeat (first | apply Kd.R_alloc | apply Kd.R_drewN | apply Kd.R_drew)); exact HO110.out, by repeat (first | (with_reducible first | exact HB.out | apply below_alloc | apply pw_below_drewN | apply below_drew1) | exact HB.out)⟩
        · rw [if_neg c8] at H
          exact absurd H (by simp)
      · rw [if_neg c7] at H
        exact absurd H (by simp)
    · rw [if_neg c6] at H
      exact absurd H (by simp)
  · rw [if_neg c5] at H
    have c5b0 : (t103.toList == ([] : List UInt8)) = false := beq_eq_false_iff_ne.mpr c5
    have c5b1 : (t103.toList != ([] : List UInt8)) = true := bne_iff_ne.mpr c5
    replace H := Option.bind_eq_some_iff.mp H
    obtain ⟨⟨t111, t112⟩, A140, H⟩ := H
    replace H : (if 0 ≤ t101 then (if t101 ≤ t111 then (if t111 ≤ (l0.length : Int) then ((api_Row_67.f ((l0.take (t111 : Int).toNat).drop (t101 : Int).toNat)).bind fun t117 => (some t117)) else (none)) else (none)) else (none)) = some r := H
    have A14 := Aside0.mk A140
    clear A140
    by_cases c15 : 0 ≤ t101
    · rw [if_pos c15] at H
      have c15b0 := eq_true c15
      have c15b1 : decide (0 ≤ t101) = true := decide_eq_true c15
      clear c15
      by_cases c16 : t101 ≤ t111
      · rw [if_pos c16] at H
        have c16b0 := eq_true c16
        have c16b1 : decide (t101 ≤ t111) = true := decide_eq_true c16
        clear c16
        by_cases c17 : t111 ≤ (l0.length : Int)
        · rw [if_pos c17] at H
          have c17b0 := eq_true c17
          have c17b1 : decide (t111 ≤ (l0.length : Int)) = true := decide_eq_true c17
          clear c17
          obtain ⟨y113, hy113⟩ : ∃ y_ : List (S69), y_ = ((l0.take (t111 : Int).toNat).drop (t101 : Int).toNat) := ⟨_, rfl⟩
          replace H : ((api_Row_67.f y113).bind fun t117 => (some t117)) = some r := by first | (rw [hy113]; with_reducible exact H) | (have H2_ := (Option.bind_some _ _).symm.trans H; rw [hy113]; with_reducible exact H2_) | (have H2_ := (Option.bind_some _ _).symm.trans H; with_reducible exact H2_) | with_reducible exact H | (rw [hy113]; exact H) | exact H
          have Ny113 := Aside0.mk hy113
          clear hy113
          replace H := Option.bind_eq_some_iff.mp H
          obtain ⟨t117, A180, H⟩ := H
          replace H : (some t117) = some r := H
          have A18 := Aside0.mk A180
          clear A180
          obtain rfl := Option.some.inj H
          go_enter Try.func46, Try.ntmps46
          go_wp2_with (first | ((with_reducible refine gate_callee (f := 66) rfl ?_); refine goesL_ (some 12) rfl rfl Try.func66 (by kernel_rfl) rfl #[.slice A0 l0.length c0, .string a1] rfl (by (try simp only [List.map_toArray, List.map_cons, List.map_nil]); first | done | rfl | (simp only [List.length_drop, List.length_take]; rfl)) ?_; (with_reducible refine (rows_place.calls _ _ l0 a1 t101 t102 _ ?side1 ?side2 A3.out).mono ?_); (case side1 => repeat (first | exact HR0.out | (with_reducible refine Kd.C_alloc ?_ _) | (with_reducible refine Kd.C_drewN ?_ _) | (with_reducible refine Kd.C_drew ?_))); (case side2 => exact HC0.out); rintro e w19 ⟨rfl, hb⟩; refine ⟨_, rfl, ?_⟩; have n0_ := Aside0.mk (below_step (by repeat (first | (with_reducible first | exact HB.out | apply below_alloc | apply pw_below_drewN | apply below_drew1) | exact HB.out)) hb); clear HB; have HB := n0_; clear n0_; (try clear hb); (try clear hb2); (try clear hk); (try clear hi)) | ((with_reducible refine gate_callee (f := 16) rfl ?_); refine goesL_ (some 18) rfl rfl Try.func16 (by kernel_rfl) rfl #[.string a1] rfl (by (try simp only [List.map_toArray, List.map_cons, List.map_nil]); first | done | rfl | (simp only [List.length_drop, List.length_take]; rfl)) ?_; (with_reducible refine (rows_Next.calls k a1 t103 _ A4.out).mono ?_); rintro e w20 ⟨rfl, hb⟩; refine ⟨_, rfl, ?_⟩; have n0_ := Aside0.mk (below_step (by repeat (first | (with_reducible first | exact HB.out | apply below_alloc | apply pw_below_drewN | apply below_drew1) | exact HB.out)) hb); clear HB; have HB := n0_; clear n0_; (try clear hb); (try clear hb2); (try clear hk); (try clear hi)) | ((with_reducible refine gate_callee (f := 66) rfl ?_); refine goesL_ (some 24) rfl rfl Try.func66 (by kernel_rfl) rfl #[.slice A0 l0.length c0, .string t103] rfl (by (try simp only [List.map_toArray, List.map_cons, List.map_nil]); first | done | rfl | (simp only [List.length_drop, List.length_take]; rfl)) ?_; (with_reducible refine (rows_place.calls _ _ l0 t103 t111 t112 _ ?side1 ?side2 A14.out).mono ?_); (case side1 => repeat (first | exact (Kd.C_below HR0.out HB.out) | (with_reducible refine Kd.C_alloc ?_ _) | (with_reducible refine Kd.C_drewN ?_ _) | (with_reducible refine Kd.C_drew ?_))); (case side2 => exact HC0.out); rintro e w21 ⟨rfl, hb⟩; refine ⟨_, rfl, ?_⟩; have n0_ := Aside0.mk (below_step (by repeat (first | (with_reducible first | exact HB.out | apply below_alloc | apply pw_below_drewN | apply below_drew1) | exact HB.out)) hb); clear HB; have HB := n0_; clear n0_; (try clear hb); (try clear hb2); (try clear hk); (try clear hi); have q22 : (t111 : Int) ≤ ((l0.length : Int) : Int) := of_decide_eq_true (by first | (with_reducible assumption) | assumption); obtain ⟨i022, hi022, _, hsz22, _⟩ := info_parts info69; have hroom22 : l0.length ≤ c0 := HC0.out; have hC22 : Kd.C k69 _ A0 l0.length l0 := HR0.out; have ql22 : (t101 : Int) ≤ (t111 : Int) := of_decide_eq_true (by first | (with_reducible assumption) | assumption); have q022 : (0 : Int) ≤ (t101 : Int) := of_decide_eq_true (by first | (with_reducible assumption) | assumption); have hcut22 := cut_mid (P := Try.prog) 24 69 .i64 .i64 Try.underlying24 hi022 2 hsz22 A0 l0.length c0 t101 t111 q022 ql22 q22 hroom22; have hr22 := Kd.C_mid (lo := (t101 : Int).toNat) (hi := (t111 : Int).toNat) (c := c0) hC22 (by omega) (by omega) hroom22; obtain ⟨A22, hA22⟩ : ∃ A1, A1 = (if c0 = (t101 : Int).toNat then A0 else (A0 : Option Addr).map (·.add ((t101 : Int).toNat * 2))) := ⟨_, rfl⟩; obtain ⟨c22, hc22⟩ : ∃ c1, c1 = c0 - (t101 : Int).toNat := ⟨_, rfl⟩; have hy22 : y113.length = (t111 : Int).toNat - (t101 : Int).toNat := (by rw [Ny113.out, List.length_drop, List.length_take] <;> omega); rw [show ((l0).take (t111 : Int).toNat).drop (t101 : Int).toNat = y113 from Ny113.out.symm] at hr22; replace hr22 : Kd.C k69 _ A22 y113.length y113 := (by rw [hA22]; exact hr22); rw [← hy22, ← hA22, ← hc22] at hcut22; have HR116 := Aside0.mk hr22; have HC116 := Aside0.mk (show y113.length ≤ c22 from by rw [hy22, hc22]; exact Nat.sub_le_sub_right (Nat.le_trans (by omega) hroom22) _); clear hr22 hC22 hroom22 hi022 hsz22 hc22; have KY22 := Aside0.mk hy22; have KA22 := Aside0.mk hA22; clear hy22 hA22; replace q22 := eq_true q22) | ((with_reducible refine gate_callee (f := 67) rfl ?_); refine goesL_ (some 31) rfl rfl Try.func67 (by kernel_rfl) rfl #[.slice A22 y113.length c22] rfl (by (try simp only [List.map_toArray, List.map_cons, List.map_nil]); first | done | rfl | (simp only [List.length_drop, List.length_take]; rfl)) ?_; (with_reducible refine (api_Row_67.calls _ _ y113 t117 _ ?side1 ?side2 A18.out).mono ?_); (case side1 => repeat (first | exact (Kd.C_below HR116.out HB.out) | (with_reducible refine Kd.C_alloc ?_ _) | (with_reducible refine Kd.C_drewN ?_ _) | (with_reducible refine Kd.C_drew ?_))); (case side2 => exact HC116.out); rintro e w23 ⟨v118, rfl, ho0, hb⟩; refine ⟨_, rfl, ?_⟩; have n0_ := Aside0.mk (Kd.R_lower ho0 (below_size (by repeat (first | (with_reducible first | exact HB.out | apply below_alloc | apply pw_below_drewN | apply below_drew1) | exact HB.out)))); have n1_ := Aside0.mk (below_step (by repeat (first | (with_reducible first | exact HB.out | apply below_alloc | apply pw_below_drewN | apply below_drew1) | exact HB.out)) hb); clear HB; have HO119 := n0_; have HB := n1_; clear n0_ n1_; (try clear hb); (try clear hb2); (try clear hk); (try clear hi); (try clear ho0)))
          go_ret
          exact ⟨_, by first | rfl | (simp [errW_none, errW_some] <;> rfl) | (simp [*, errW_none, errW_some] <;> rfl), by (with_reducible repeat (first | apply Kd.R_alloc | apply Kd.R_drewN | apply Kd.R_drew)); exact HO119.out, by repeat (first | (with_reducible first | exact HB.out | apply below_alloc | apply pw_below_drewN | apply below_drew1) | exact HB.out)⟩
        · rw [if_neg c17] at H
          exact absurd H (by simp)
      · rw [if_neg c16] at H
        exact absurd H (by simp)
    · rw [if_neg c15] at H
      exact absurd H (by simp)

/-! ### rows_Begin: function 22 -/
def rows_Begin.f (k : Nat) (l0 : List (S69)) (a1 : ByteArray) : Option ((List (S69)) × Int) := (rows_Check.f k l0).bind fun t120 => (if t120 = 0 then ((rows_Beginning.f k l0 a1).bind fun t121 => (some (t121, 0))) else (some (([] : List (S69)), t120)))
theorem rows_Begin.mono : ∀ a0 a1 k, LeO (rows_Begin.f k a0 a1) (rows_Begin.f (k + 1) a0 a1) := by
  intro a0 a1 k
  unfold rows_Begin.f
  repeat' first
      | (with_reducible exact rows_Beginning.mono _ _ _)
      | (with_reducible exact rows_Check.mono _ _)
      | (with_reducible exact LeO.refl _)
      | (with_reducible exact LeO.none _)
      | (with_reducible refine LeO.ite ?_ ?_)
      | (with_reducible refine LeO.bind ?_ (fun _ => ?_))
      | exact rows_Beginning.mono _ _ _
      | exact rows_Check.mono _ _
      | exact LeO.none _
      | refine LeO.ite ?_ ?_
      | refine LeO.bind ?_ (fun _ => ?_)
set_option maxHeartbeats 8000000 in
set_option maxRecDepth 100000 in
theorem rows_Begin.calls (k : Nat) (A0 : Option Addr) (c0 : Nat) (l0 : List (S69)) (a1 : ByteArray) (r1 : List (S69)) (r2 : Int) (w : World) (hr0 : Kd.C k69 w A0 l0.length l0) (hc0 : l0.length ≤ c0) (h : rows_Begin.f k l0 a1 = some (r1, r2)) :
    Calls Try.prog 22 #[.slice A0 l0.length c0, .string a1] w fun e w' => ∃ v0_ : Value, e = .returned (.tuple #[v0_, .int .i64 r2]) ∧ Kd.R k69 69 w' w.heap.size (fun _ => True) v0_ r1 ∧ Below w.heap.size w w' := by
  have HR0 := Aside0.mk hr0
  have HC0 := Aside0.mk hc0
  clear hr0 hc0
  have HB := Aside0.mk (Below.refl w.heap.size w)
  have H : ((rows_Check.f k l0).bind fun t120 => (if t120 = 0 then ((rows_Beginning.f k l0 a1).bind fun t121 => (some (t121, 0))) else (some (([] : List (S69)), t120)))) = some (r1, r2) := h
  clear h
  replace H := Option.bind_eq_some_iff.mp H
  obtain ⟨t120, A30, H⟩ := H
  replace H : (if t120 = 0 then ((rows_Beginning.f k l0 a1).bind fun t121 => (some (t121, 0))) else (some (([] : List (S69)), t120))) = some (r1, r2) := H
  have A3 := Aside0.mk A30
  clear A30
  by_cases c4 : t120 = 0
  · rw [if_pos c4] at H
    have c4b0 : (t120 == 0) = true := beq_iff_eq.mpr c4
    have c4b1 : (t120 != 0) = false := bne_eq_false_iff_eq.mpr c4
    clear c4
    replace H := Option.bind_eq_some_iff.mp H
    obtain ⟨t121, A50, H⟩ := H
    replace H : (some (t121, 0)) = some (r1, r2) := H
    have A5 := Aside0.mk A50
    clear A50
    simp only [Option.some.injEq, Prod.mk.injEq] at H
    obtain ⟨rfl, rfl⟩ := H
    go_enter Try.func22, Try.ntmps22
    go_wp2_with (first | ((with_reducible refine gate_callee (f := 18) rfl ?_); refine goesL_ (some 8) rfl rfl Try.func18 (by kernel_rfl) rfl #[.slice A0 l0.length c0] rfl (by (try simp only [List.map_toArray, List.map_cons, List.map_nil]); first | done | rfl | (simp only [List.length_drop, List.length_take]; rfl)) ?_; (with_reducible refine (rows_Check.calls k _ _ l0 t120 _ ?side1 ?side2 A3.out).mono ?_); (case side1 => repeat (first | exact HR0.out | (with_reducible refine Kd.C_alloc ?_ _) | (with_reducible refine Kd.C_drewN ?_ _) | (with_reducible refine Kd.C_drew ?_))); (case side2 => exact HC0.out); rintro e w6 ⟨rfl, hb⟩; refine ⟨_, rfl, ?_⟩; have n0_ := Aside0.mk (below_step (by repeat (first | (with_reducible first | exact HB.out | apply below_alloc | apply pw_below_drewN | apply below_drew1) | exact HB.out)) hb); clear HB; have HB := n0_; clear n0_; (try clear hb); (try clear hb2); (try clear hk); (try clear hi)) | ((with_reducible refine gate_callee (f := 46) rfl ?_); refine goesL_ (some 14) rfl rfl Try.func46 (by kernel_rfl) rfl #[.slice A0 l0.length c0, .string a1] rfl (by (try simp only [List.map_toArray, List.map_cons, List.map_nil]); first | done | rfl | (simp only [List.length_drop, List.length_take]; rfl)) ?_; (with_reducible refine (rows_Beginning.calls k _ _ l0 a1 t121 _ ?side1 ?side2 A5.out).mono ?_); (case side1 => repeat (first | exact (Kd.C_below HR0.out HB.out) | (with_reducible refine Kd.C_alloc ?_ _) | (with_reducible refine Kd.C_drewN ?_ _) | (with_reducible refine Kd.C_drew ?_))); (case side2 => exact HC0.out); rintro e w7 ⟨v122, rfl, ho0, hb⟩; refine ⟨_, rfl, ?_⟩; have n0_ := Aside0.mk (Kd.R_lower ho0 (below_size (by repeat (first | (with_reducible first | exact HB.out | apply below_alloc | apply pw_below_drewN | apply below_drew1) | exact HB.out)))); have n1_ := Aside0.mk (below_step (by repeat (first | (with_reducible first | exact HB.out | apply below_alloc | apply pw_below_drewN | apply below_drew1) | exact HB.out)) hb); clear HB; have HO123 := n0_; have HB := n1_; clear n0_ n1_; (try clear hb); (try clear hb2); (try clear hk); (try clear hi); (try clear ho0)))
    go_ret2
    exact ⟨_, by first | rfl | (simp [errW_none, errW_some] <;> rfl) | (simp [*, errW_none, errW_some] <;> rfl), by (with_reducible repeat (first | apply Kd.R_alloc | apply Kd.R_drewN | apply Kd.R_drew)); exact HO123.out, by repeat (first | (with_reducible first | exact HB.out | apply below_alloc | apply pw_below_drewN | apply below_drew1) | exact HB.out)⟩
  · rw [if_neg c4] at H
    have c4b0 : (t120 == 0) = false := beq_eq_false_iff_ne.mpr c4
    have c4b1 : (t120 != 0) = true := bne_iff_ne.mpr c4
    simp only [Option.some.injEq, Prod.mk.injEq] at H
    obtain ⟨rfl, rfl⟩ := H
    go_enter Try.func22, Try.ntmps22
    go_wp2_with (first | ((with_reducible refine gate_callee (f := 18) rfl ?_); refine goesL_ (some 8) rfl rfl Try.func18 (by kernel_rfl) rfl #[.slice A0 l0.length c0] rfl (by (try simp only [List.map_toArray, List.map_cons, List.map_nil]); first | done | rfl | (simp only [List.length_drop, List.length_take]; rfl)) ?_; (with_reducible refine (rows_Check.calls k _ _ l0 t120 _ ?side1 ?side2 A3.out).mono ?_); (case side1 => repeat (first | exact HR0.out | (with_reducible refine Kd.C_alloc ?_ _) | (with_reducible refine Kd.C_drewN ?_ _) | (with_reducible refine Kd.C_drew ?_))); (case side2 => exact HC0.out); rintro e w8 ⟨rfl, hb⟩; refine ⟨_, rfl, ?_⟩; have n0_ := Aside0.mk (below_step (by repeat (first | (with_reducible first | exact HB.out | apply below_alloc | apply pw_below_drewN | apply below_drew1) | exact HB.out)) hb); clear HB; have HB := n0_; clear n0_; (try clear hb); (try clear hb2); (try clear hk); (try clear hi)))
    go_ret2
    exact ⟨_, by first | rfl | (simp [errW_none, errW_some] <;> rfl) | (simp [*, errW_none, errW_some] <;> rfl), by first | exact Kd.R_nil _ _ _ _ _ | exact Kd.N_nil _ _ _ _ _ | exact Kd.V_nil _ _ _ _ _ | exact Kd.Q_nil _ _ _ _ _ | exact Kd.S_nil _ _ _ _ _, by repeat (first | (with_reducible first | exact HB.out | apply below_alloc | apply pw_below_drewN | apply below_drew1) | exact HB.out)⟩

/-! ### bagnallref_RowsBegin: function 23 -/
def bagnallref_RowsBegin.f (k : Nat) (l0 : List (S69)) (a1 : ByteArray) : Option ((List (S69)) × Int) := (bagnallref_RowsFault.f k l0).bind fun t124 => (if t124 = 0 then ((bagnallref_rowsBegin.f k l0 a1).bind fun t125 => (some (t125, 0))) else (some (([] : List (S69)), t124)))
theorem bagnallref_RowsBegin.mono : ∀ a0 a1 k, LeO (bagnallref_RowsBegin.f k a0 a1) (bagnallref_RowsBegin.f (k + 1) a0 a1) := by
  intro a0 a1 k
  unfold bagnallref_RowsBegin.f
  repeat' first
      | (with_reducible exact bagnallref_RowsFault.mono _ _)
      | (with_reducible exact bagnallref_rowsBegin.mono _ _ _)
      | (with_reducible exact LeO.refl _)
      | (with_reducible exact LeO.none _)
      | (with_reducible refine LeO.ite ?_ ?_)
      | (with_reducible refine LeO.bind ?_ (fun _ => ?_))
      | exact bagnallref_RowsFault.mono _ _
      | exact bagnallref_rowsBegin.mono _ _ _
      | exact LeO.none _
      | refine LeO.ite ?_ ?_
      | refine LeO.bind ?_ (fun _ => ?_)
set_option maxHeartbeats 8000000 in
set_option maxRecDepth 100000 in
theorem bagnallref_RowsBegin.calls (k : Nat) (A0 : Option Addr) (c0 : Nat) (l0 : List (S69)) (a1 : ByteArray) (r1 : List (S69)) (r2 : Int) (w : World) (hr0 : Kd.C k69 w A0 l0.length l0) (hc0 : l0.length ≤ c0) (h : bagnallref_RowsBegin.f k l0 a1 = some (r1, r2)) :
    Calls Try.prog 23 #[.slice A0 l0.length c0, .string a1] w fun e w' => ∃ v0_ : Value, e = .returned (.tuple #[v0_, .int .i64 r2]) ∧ Kd.R k69 69 w' w.heap.size (fun _ => True) v0_ r1 ∧ Below w.heap.size w w' := by
  have HR0 := Aside0.mk hr0
  have HC0 := Aside0.mk hc0
  clear hr0 hc0
  have HB := Aside0.mk (Below.refl w.heap.size w)
  have H : ((bagnallref_RowsFault.f k l0).bind fun t124 => (if t124 = 0 then ((bagnallref_rowsBegin.f k l0 a1).bind fun t125 => (some (t125, 0))) else (some (([] : List (S69)), t124)))) = some (r1, r2) := h
  clear h
  replace H := Option.bind_eq_some_iff.mp H
  obtain ⟨t124, A30, H⟩ := H
  replace H : (if t124 = 0 then ((bagnallref_rowsBegin.f k l0 a1).bind fun t125 => (some (t125, 0))) else (some (([] : List (S69)), t124))) = some (r1, r2) := H
  have A3 := Aside0.mk A30
  clear A30
  by_cases c4 : t124 = 0
  · rw [if_pos c4] at H
    have c4b0 : (t124 == 0) = true := beq_iff_eq.mpr c4
    have c4b1 : (t124 != 0) = false := bne_eq_false_iff_eq.mpr c4
    clear c4
    replace H := Option.bind_eq_some_iff.mp H
    obtain ⟨t125, A50, H⟩ := H
    replace H : (some (t125, 0)) = some (r1, r2) := H
    have A5 := Aside0.mk A50
    clear A50
    simp only [Option.some.injEq, Prod.mk.injEq] at H
    obtain ⟨rfl, rfl⟩ := H
    go_enter Try.func23, Try.ntmps23
    go_wp2_with (first | ((with_reducible refine gate_callee (f := 19) rfl ?_); refine goesL_ (some 8) rfl rfl Try.func19 (by kernel_rfl) rfl #[.slice A0 l0.length c0] rfl (by (try simp only [List.map_toArray, List.map_cons, List.map_nil]); first | done | rfl | (simp only [List.length_drop, List.length_take]; rfl)) ?_; (with_reducible refine (bagnallref_RowsFault.calls k _ _ l0 t124 _ ?side1 ?side2 A3.out).mono ?_); (case side1 => repeat (first | exact HR0.out | (with_reducible refine Kd.C_alloc ?_ _) | (with_reducible refine Kd.C_drewN ?_ _) | (with_reducible refine Kd.C_drew ?_))); (case side2 => exact HC0.out); rintro e w6 ⟨rfl, hb⟩; refine ⟨_, rfl, ?_⟩; have n0_ := Aside0.mk (below_step (by repeat (first | (with_reducible first | exact HB.out | apply below_alloc | apply pw_below_drewN | apply below_drew1) | exact HB.out)) hb); clear HB; have HB := n0_; clear n0_; (try clear hb); (try clear hb2); (try clear hk); (try clear hi)) | ((with_reducible refine gate_callee (f := 47) rfl ?_); refine goesL_ (some 14) rfl rfl Try.func47 (by kernel_rfl) rfl #[.slice A0 l0.length c0, .string a1] rfl (by (try simp only [List.map_toArray, List.map_cons, List.map_nil]); first | done | rfl | (simp only [List.length_drop, List.length_take]; rfl)) ?_; (with_reducible refine (bagnallref_rowsBegin.calls k _ _ l0 a1 t125 _ ?side1 ?side2 A5.out).mono ?_); (case side1 => repeat (first | exact (Kd.C_below HR0.out HB.out) | (with_reducible refine Kd.C_alloc ?_ _) | (with_reducible refine Kd.C_drewN ?_ _) | (with_reducible refine Kd.C_drew ?_))); (case side2 => exact HC0.out); rintro e w7 ⟨v126, rfl, ho0, hb⟩; refine ⟨_, rfl, ?_⟩; have n0_ := Aside0.mk (Kd.R_lower ho0 (below_size (by repeat (first | (with_reducible first | exact HB.out | apply below_alloc | apply pw_below_drewN | apply below_drew1) | exact HB.out)))); have n1_ := Aside0.mk (below_step (by repeat (first | (with_reducible first | exact HB.out | apply below_alloc | apply pw_below_drewN | apply below_drew1) | exact HB.out)) hb); clear HB; have HO127 := n0_; have HB := n1_; clear n0_ n1_; (try clear hb); (try clear hb2); (try clear hk); (try clear hi); (try clear ho0)))
    go_ret2
    exact ⟨_, by first | rfl | (simp [errW_none, errW_some] <;> rfl) | (simp [*, errW_none, errW_some] <;> rfl), by (with_reducible repeat (first | apply Kd.R_alloc | apply Kd.R_drewN | apply Kd.R_drew)); exact HO127.out, by repeat (first | (with_reducible first | exact HB.out | apply below_alloc | apply pw_below_drewN | apply below_drew1) | exact HB.out)⟩
  · rw [if_neg c4] at H
    have c4b0 : (t124 == 0) = false := beq_eq_false_iff_ne.mpr c4
    have c4b1 : (t124 != 0) = true := bne_iff_ne.mpr c4
    simp only [Option.some.injEq, Prod.mk.injEq] at H
    obtain ⟨rfl, rfl⟩ := H
    go_enter Try.func23, Try.ntmps23
    go_wp2_with (first | ((with_reducible refine gate_callee (f := 19) rfl ?_); refine goesL_ (some 8) rfl rfl Try.func19 (by kernel_rfl) rfl #[.slice A0 l0.length c0] rfl (by (try simp only [List.map_toArray, List.map_cons, List.map_nil]); first | done | rfl | (simp only [List.length_drop, List.length_take]; rfl)) ?_; (with_reducible refine (bagnallref_RowsFault.calls k _ _ l0 t124 _ ?side1 ?side2 A3.out).mono ?_); (case side1 => repeat (first | exact HR0.out | (with_reducible refine Kd.C_alloc ?_ _) | (with_reducible refine Kd.C_drewN ?_ _) | (with_reducible refine Kd.C_drew ?_))); (case side2 => exact HC0.out); rintro e w8 ⟨rfl, hb⟩; refine ⟨_, rfl, ?_⟩; have n0_ := Aside0.mk (below_step (by repeat (first | (with_reducible first | exact HB.out | apply below_alloc | apply pw_below_drewN | apply below_drew1) | exact HB.out)) hb); clear HB; have HB := n0_; clear n0_; (try clear hb); (try clear hb2); (try clear hk); (try clear hi)))
    go_ret2
    exact ⟨_, by first | rfl | (simp [errW_none, errW_some] <;> rfl) | (simp [*, errW_none, errW_some] <;> rfl), by first | exact Kd.R_nil _ _ _ _ _ | exact Kd.N_nil _ _ _ _ _ | exact Kd.V_nil _ _ _ _ _ | exact Kd.Q_nil _ _ _ _ _ | exact Kd.S_nil _ _ _ _ _, by repeat (first | (with_reducible first | exact HB.out | apply below_alloc | apply pw_below_drewN | apply below_drew1) | exact HB.out)⟩

/-! ### bagnalllaw_RowsBegins: function 6 -/
def bagnalllaw_RowsBegins.f (k : Nat) (l0 : List (S69)) (a1 : ByteArray) : Option (Bool) := (rows_Begin.f k l0 a1).bind fun bt128 => ((bagnallref_RowsBegin.f k l0 a1).bind fun bt132 => ((bagnalllaw_sameRows.f k bt128.1 bt132.1).bind fun t136 => (if t136 = true then (some (bt128.2 == bt132.2)) else (some false))))
theorem bagnalllaw_RowsBegins.mono : ∀ a0 a1 k, LeO (bagnalllaw_RowsBegins.f k a0 a1) (bagnalllaw_RowsBegins.f (k + 1) a0 a1) := by
  intro a0 a1 k
  unfold bagnalllaw_RowsBegins.f
  repeat' first
      | (with_reducible exact bagnalllaw_sameRows.mono _ _ _)
      | (with_reducible exact bagnallref_RowsBegin.mono _ _ _)
      | (with_reducible exact rows_Begin.mono _ _ _)
      | (with_reducible exact LeO.refl _)
      | (with_reducible exact LeO.none _)
      | (with_reducible refine LeO.ite ?_ ?_)
      | (with_reducible refine LeO.bind ?_ (fun _ => ?_))
      | exact bagnalllaw_sameRows.mono _ _ _
      | exact bagnallref_RowsBegin.mono _ _ _
      | exact rows_Begin.mono _ _ _
      | exact LeO.none _
      | refine LeO.ite ?_ ?_
      | refine LeO.bind ?_ (fun _ => ?_)
set_option maxHeartbeats 8000000 in
set_option maxRecDepth 100000 in
theorem bagnalllaw_RowsBegins.calls (k : Nat) (A0 : Option Addr) (c0 : Nat) (l0 : List (S69)) (a1 : ByteArray) (r : Bool) (w : World) (hr0 : Kd.C k69 w A0 l0.length l0) (hc0 : l0.length ≤ c0) (h : bagnalllaw_RowsBegins.f k l0 a1 = some r) :
    Calls Try.prog 6 #[.slice A0 l0.length c0, .string a1] w fun e w' => e = .returned (.bool r) ∧ Below w.heap.size w w' := by
  have HR0 := Aside0.mk hr0
  have HC0 := Aside0.mk hc0
  clear hr0 hc0
  have HB := Aside0.mk (Below.refl w.heap.size w)
  have H : ((rows_Begin.f k l0 a1).bind fun bt128 => ((bagnallref_RowsBegin.f k l0 a1).bind fun bt132 => ((bagnalllaw_sameRows.f k bt128.1 bt132.1).bind fun t136 => (if t136 = true then (some (bt128.2 == bt132.2)) else (some false))))) = some r := h
  clear h
  replace H := Option.bind_eq_some_iff.mp H
  obtain ⟨⟨t128, t129⟩, A30, H⟩ := H
  replace H : ((bagnallref_RowsBegin.f k l0 a1).bind fun bt132 => ((bagnalllaw_sameRows.f k t128 bt132.1).bind fun t136 => (if t136 = true then (some (t129 == bt132.2)) else (some false)))) = some r := H
  have A3 := Aside0.mk A30
  clear A30
  replace H := Option.bind_eq_some_iff.mp H
  obtain ⟨⟨t132, t133⟩, A40, H⟩ := H
  replace H : ((bagnalllaw_sameRows.f k t128 t132).bind fun t136 => (if t136 = true then (some (t129 == t133)) else (some false))) = some r := H
  have A4 := Aside0.mk A40
  clear A40
  replace H := Option.bind_eq_some_iff.mp H
  obtain ⟨t136, A50, H⟩ := H
  replace H : (if t136 = true then (some (t129 == t133)) else (some false)) = some r := H
  have A5 := Aside0.mk A50
  clear A50
  by_cases c6 : t136 = true
  · subst c6
    have H1 : (some (t129 == t133)) = some r := by rw [if_pos rfl] at H; exact H
    clear H
    have H := H1
    clear H1
    obtain rfl := Option.some.inj H
    go_enter Try.func6, Try.ntmps6
    go_wp2_with (first | ((with_reducible refine gate_callee (f := 22) rfl ?_); refine goesL_ (some 12) rfl rfl Try.func22 (by kernel_rfl) rfl #[.slice A0 l0.length c0, .string a1] rfl (by (try simp only [List.map_toArray, List.map_cons, List.map_nil]); first | done | rfl | (simp only [List.length_drop, List.length_take]; rfl)) ?_; (with_reducible refine (rows_Begin.calls k _ _ l0 a1 t128 t129 _ ?side1 ?side2 A3.out).mono ?_); (case side1 => repeat (first | exact HR0.out | (with_reducible refine Kd.C_alloc ?_ _) | (with_reducible refine Kd.C_drewN ?_ _) | (with_reducible refine Kd.C_drew ?_))); (case side2 => exact HC0.out); rintro e w7 ⟨v130, rfl, ho0, hb⟩; refine ⟨_, rfl, ?_⟩; have n0_ := Aside0.mk (Kd.R_lower ho0 (below_size (by repeat (first | (with_reducible first | exact HB.out | apply below_alloc | apply pw_below_drewN | apply below_drew1) | exact HB.out)))); have n1_ := Aside0.mk (below_step (by repeat (first | (with_reducible first | exact HB.out | apply below_alloc | apply pw_below_drewN | apply below_drew1) | exact HB.out)) hb); clear HB; have HO131 := n0_; have HB := n1_; clear n0_ n1_; (try clear hb); (try clear hb2); (try clear hk); (try clear hi); (try clear ho0)) | ((with_reducible refine gate_callee (f := 23) rfl ?_); refine goesL_ (some 18) rfl rfl Try.func23 (by kernel_rfl) rfl #[.slice A0 l0.length c0, .string a1] rfl (by (try simp only [List.map_toArray, List.map_cons, List.map_nil]); first | done | rfl | (simp only [List.length_drop, List.length_take]; rfl)) ?_; (with_reducible refine (bagnallref_RowsBegin.calls k _ _ l0 a1 t132 t133 _ ?side1 ?side2 A4.out).mono ?_); (case side1 => repeat (first | exact (Kd.C_below HR0.out HB.out) | (with_reducible refine Kd.C_alloc ?_ _) | (with_reducible refine Kd.C_drewN ?_ _) | (with_reducible refine Kd.C_drew ?_))); (case side2 => exact HC0.out); rintro e w8 ⟨v134, rfl, ho0, hb⟩; refine ⟨_, rfl, ?_⟩; have n0_ := Aside0.mk (Kd.R_elder' (by (with_reducible repeat (first | apply Kd.R_alloc | apply Kd.R_drewN | apply Kd.R_drew)); exact HO131.out) (Kd.R_base ho0) hb); have n1_ := Aside0.mk (Kd.R_lower (Kd.R_new' ho0 (Kd.R_lt (by (with_reducible repeat (first | apply Kd.R_alloc | apply Kd.R_drewN | apply Kd.R_drew)); exact HO131.out))) (below_size (by repeat (first | (with_reducible first | exact HB.out | apply below_alloc | apply pw_below_drewN | apply below_drew1) | exact HB.out)))); have n2_ := Aside0.mk (below_step (by repeat (first | (with_reducible first | exact HB.out | apply below_alloc | apply pw_below_drewN | apply below_drew1) | exact HB.out)) hb); clear HO131; clear HB; have HO131 := n0_; have HO135 := n1_; have HB := n2_; clear n0_ n1_ n2_; (try clear hb); (try clear hb2); (try clear hk); (try clear hi); (try clear ho0); obtain ⟨Ao9, co9, eo9⟩ := Kd.R_slice HO131.out; subst eo9; obtain ⟨Ao10, co10, eo10⟩ := Kd.R_slice HO135.out; subst eo10) | ((with_reducible refine gate_callee (f := 24) rfl ?_); refine goesL_ (some 23) rfl rfl Try.func24 (by kernel_rfl) rfl #[.slice Ao9 t128.length co9, .slice Ao10 t132.length co10] rfl (by (try simp only [List.map_toArray, List.map_cons, List.map_nil]); first | done | rfl | (simp only [List.length_drop, List.length_take]; rfl)) ?_; (with_reducible refine (bagnalllaw_sameRows.calls k _ _ t128 _ _ t132 true _ ?side1 ?side2 ?side3 ?side4 A5.out).mono ?_); (case side1 => repeat (first | exact (Kd.R_reads' HO131.out).2.2 | (with_reducible refine Kd.C_alloc ?_ _) | (with_reducible refine Kd.C_drewN ?_ _) | (with_reducible refine Kd.C_drew ?_))); (case side2 => exact (Kd.R_reads' HO131.out).2.1); (case side3 => repeat (first | exact (Kd.R_reads' HO135.out).2.2 | (with_reducible refine Kd.C_alloc ?_ _) | (with_reducible refine Kd.C_drewN ?_ _) | (with_reducible refine Kd.C_drew ?_))); (case side4 => exact (Kd.R_reads' HO135.out).2.1); rintro e w' ⟨rfl, ⟨nd, rfl⟩⟩; refine ⟨_, rfl, ?_⟩))
    go_ret
    exact ⟨by first | rfl | (simp [errW_none, errW_some] <;> rfl) | (simp [*, errW_none, errW_some] <;> rfl), by repeat (first | (with_reducible first | exact HB.out | apply below_alloc | apply pw_below_drewN | apply below_drew1) | exact HB.out)⟩
  · replace c6 := Bool.eq_false_iff.mpr c6
    subst c6
    have H1 : (some false) = some r := by rw [if_neg (show ¬ (false = true) by decide)] at H; exact H
    clear H
    have H := H1
    clear H1
    obtain rfl := Option.some.inj H
    go_enter Try.func6, Try.ntmps6
    go_wp2_with (first | ((with_reducible refine gate_callee (f := 22) rfl ?_); refine goesL_ (some 12) rfl rfl Try.func22 (by kernel_rfl) rfl #[.slice A0 l0.length c0, .string a1] rfl (by (try simp only [List.map_toArray, List.map_cons, List.map_nil]); first | done | rfl | (simp only [List.length_drop, List.length_take]; rfl)) ?_; (with_reducible refine (rows_Begin.calls k _ _ l0 a1 t128 t129 _ ?side1 ?side2 A3.out).mono ?_); (case side1 => repeat (first | exact HR0.out | (with_reducible refine Kd.C_alloc ?_ _) | (with_reducible refine Kd.C_drewN ?_ _) | (with_reducible refine Kd.C_drew ?_))); (case side2 => exact HC0.out); rintro e w11 ⟨v130, rfl, ho0, hb⟩; refine ⟨_, rfl, ?_⟩; have n0_ := Aside0.mk (Kd.R_lower ho0 (below_size (by repeat (first | (with_reducible first | exact HB.out | apply below_alloc | apply pw_below_drewN | apply below_drew1) | exact HB.out)))); have n1_ := Aside0.mk (below_step (by repeat (first | (with_reducible first | exact HB.out | apply below_alloc | apply pw_below_drewN | apply below_drew1) | exact HB.out)) hb); clear HB; have HO131 := n0_; have HB := n1_; clear n0_ n1_; (try clear hb); (try clear hb2); (try clear hk); (try clear hi); (try clear ho0)) | ((with_reducible refine gate_callee (f := 23) rfl ?_); refine goesL_ (some 18) rfl rfl Try.func23 (by kernel_rfl) rfl #[.slice A0 l0.length c0, .string a1] rfl (by (try simp only [List.map_toArray, List.map_cons, List.map_nil]); first | done | rfl | (simp only [List.length_drop, List.length_take]; rfl)) ?_; (with_reducible refine (bagnallref_RowsBegin.calls k _ _ l0 a1 t132 t133 _ ?side1 ?side2 A4.out).mono ?_); (case side1 => repeat (first | exact (Kd.C_below HR0.out HB.out) | (with_reducible refine Kd.C_alloc ?_ _) | (with_reducible refine Kd.C_drewN ?_ _) | (with_reducible refine Kd.C_drew ?_))); (case side2 => exact HC0.out); rintro e w12 ⟨v134, rfl, ho0, hb⟩; refine ⟨_, rfl, ?_⟩; have n0_ := Aside0.mk (Kd.R_elder' (by (with_reducible repeat (first | apply Kd.R_alloc | apply Kd.R_drewN | apply Kd.R_drew)); exact HO131.out) (Kd.R_base ho0) hb); have n1_ := Aside0.mk (Kd.R_lower (Kd.R_new' ho0 (Kd.R_lt (by (with_reducible repeat (first | apply Kd.R_alloc | apply Kd.R_drewN | apply Kd.R_drew)); exact HO131.out))) (below_size (by repeat (first | (with_reducible first | exact HB.out | apply below_alloc | apply pw_below_drewN | apply below_drew1) | exact HB.out)))); have n2_ := Aside0.mk (below_step (by repeat (first | (with_reducible first | exact HB.out | apply below_alloc | apply pw_below_drewN | apply below_drew1) | exact HB.out)) hb); clear HO131; clear HB; have HO131 := n0_; have HO135 := n1_; have HB := n2_; clear n0_ n1_ n2_; (try clear hb); (try clear hb2); (try clear hk); (try clear hi); (try clear ho0); obtain ⟨Ao13, co13, eo13⟩ := Kd.R_slice HO131.out; subst eo13; obtain ⟨Ao14, co14, eo14⟩ := Kd.R_slice HO135.out; subst eo14) | ((with_reducible refine gate_callee (f := 24) rfl ?_); refine goesL_ (some 23) rfl rfl Try.func24 (by kernel_rfl) rfl #[.slice Ao13 t128.length co13, .slice Ao14 t132.length co14] rfl (by (try simp only [List.map_toArray, List.map_cons, List.map_nil]); first | done | rfl | (simp only [List.length_drop, List.length_take]; rfl)) ?_; (with_reducible refine (bagnalllaw_sameRows.calls k _ _ t128 _ _ t132 false _ ?side1 ?side2 ?side3 ?side4 A5.out).mono ?_); (case side1 => repeat (first | exact (Kd.R_reads' HO131.out).2.2 | (with_reducible refine Kd.C_alloc ?_ _) | (with_reducible refine Kd.C_drewN ?_ _) | (with_reducible refine Kd.C_drew ?_))); (case side2 => exact (Kd.R_reads' HO131.out).2.1); (case side3 => repeat (first | exact (Kd.R_reads' HO135.out).2.2 | (with_reducible refine Kd.C_alloc ?_ _) | (with_reducible refine Kd.C_drewN ?_ _) | (with_reducible refine Kd.C_drew ?_))); (case side4 => exact (Kd.R_reads' HO135.out).2.1); rintro e w' ⟨rfl, ⟨nd, rfl⟩⟩; refine ⟨_, rfl, ?_⟩))
    go_ret
    exact ⟨by first | rfl | (simp [errW_none, errW_some] <;> rfl) | (simp [*, errW_none, errW_some] <;> rfl), by repeat (first | (with_reducible first | exact HB.out | apply below_alloc | apply pw_below_drewN | apply below_drew1) | exact HB.out)⟩

end Go.Proofs.Ytnjidfgjldkkcaa.Q
/- rows.Begin answers as the reference does, for every table and every head that a memory bears; no condition. -/
namespace Go.Proofs.Ytnjidfgjldkkcaa.Pure
open Go.RowKit Go.Proofs.Ytnjidfgjldkkcaa.Q Go.Proofs.YtnjidfgjldkkcaaW.PrintWords Go.Proofs.Ytnjidfgjldkkcaa.Plain

theorem toList_extract0 (s : ByteArray) (n : Nat) : (s.extract 0 n).toList = s.toList.take n := by
  rw [Go.ByteArray.toList_eq, Go.ByteArray.toList_eq, ByteArray.data_extract, Array.toList_extract]
  simp
theorem begin_l0 (l : List S69) (h : ByteArray) (hl : l.length ≤ 40) : ∀ (d i : Nat) (x : List S69), i + d = l.length → x.length ≤ i → Ev (fun n => bagnallref_rowsBegin.l0 n h x l (l.length : Int) (i : Int)) (x ++ (l.drop i).filter fun r => pfx h r.f0)
  | 0, i, x, hi, hx => by
    rw [List.drop_of_length_le (by omega), List.filter_nil, List.append_nil]
    exact Ev.step (fun k => rfl) (Ev.neg (by omega) (Ev.now _))
  | d + 1, i, x, hi, hx => by
    have hlt : i < l.length := by omega
    have e2 : wrap64 ((i : Int) + 1) = ((i + 1 : Nat) : Int) := wrap_succ (by omega)
    rw [List.drop_eq_getElem_cons hlt]
    refine Ev.step (fun k => rfl) (Ev.pos (by omega) (Ev.pos (by omega) (Ev.pos (by omega) ?_)))
    rw [rd69 hlt, e2]
    have hsz := len_toList h
    have hsk := len_toList l[i].f0
    by_cases h1 : ((l[i].f0.size : Int) ≥ (h.size : Int))
    · refine Ev.pos h1 (Ev.pos (by omega) (Ev.pos (by omega) ?_))
      rw [toList_extract0]
      by_cases h2 : l[i].f0.toList.take h.size = h.toList
      · have hp : (fun r : S69 => pfx h r.f0) l[i] = true := by show pfx h l[i].f0 = true; unfold pfx; rw [hsz]; exact decide_eq_true h2
        rw [List.filter_cons_of_pos (p := fun r : S69 => pfx h r.f0) hp]
        refine Ev.pos h2 (Ev.pos (by omega) ?_)
        have := begin_l0 l h hl d (i + 1) (x ++ [l[i]]) (by omega) (by simp; omega)
        rw [List.append_assoc, List.singleton_append] at this
        exact this
      · have hp : ¬ (fun r : S69 => pfx h r.f0) l[i] = true := by show ¬ pfx h l[i].f0 = true; unfold pfx; rw [hsz]; simpa using h2
        rw [List.filter_cons_of_neg (p := fun r : S69 => pfx h r.f0) hp]
        exact Ev.neg h2 (begin_l0 l h hl d (i + 1) x (by omega) (by omega))
    · have hp : ¬ (fun r : S69 => pfx h r.f0) l[i] = true := by
        show ¬ pfx h l[i].f0 = true
        unfold pfx
        rw [hsz, decide_eq_true_eq]
        intro e
        have := congrArg List.length e
        rw [List.length_take] at this
        omega
      rw [List.filter_cons_of_neg (p := fun r : S69 => pfx h r.f0) hp]
      exact Ev.neg h1 (begin_l0 l h hl d (i + 1) x (by omega) (by omega))

theorem tw_le {α : Type} (p q : α → Bool) : ∀ l : List α, (∀ x ∈ l, p x = true → q x = true) → (l.takeWhile p).length ≤ (l.takeWhile q).length
  | [], _ => Nat.le_refl _
  | a :: t, h => by
    have ih := tw_le p q t (fun x hx => h x (by simp [hx]))
    by_cases hp : p a = true
    · rw [List.takeWhile_cons_of_pos hp, List.takeWhile_cons_of_pos (h a (by simp) hp)]
      simpa using ih
    · rw [List.takeWhile_cons_of_neg hp]; simp
theorem begin_ev (l : List S69) (h : ByteArray) (hh : h.size ≤ 140737488351232) : ∃ q, Ev (fun n => rows_Begin.f n l h) q ∧ Ev (fun n => bagnallref_RowsBegin.f n l h) q ∧ q.1.length ≤ 40 := by
  unfold rows_Begin.f bagnallref_RowsBegin.f
  by_cases h0 : ¬ rowsErr l = 0
  · exact ⟨(([] : List S69), rowsErr l), Ev.bind (check_ev l) (Ev.neg h0 (Ev.now _)), Ev.bind (fault_ev l) (Ev.neg h0 (Ev.now _)), by simp⟩
  replace h0 : rowsErr l = 0 := Decidable.not_not.1 h0
  obtain ⟨hl, _, ha⟩ := rowsErr_zero h0
  have hs := begin_l0 l h hl l.length 0 [] (by omega) (by simp)
  rw [List.drop_zero, List.nil_append] at hs
  have hb : Ev (fun n => bagnallref_rowsBegin.f n l h) (l.filter fun r => pfx h r.f0) := hs
  refine ⟨(l.filter fun r => pfx h r.f0, 0), Ev.bind (check_ev l) (Ev.pos h0 (Ev.bind ?_ (Ev.now _))), Ev.bind (fault_ev l) (Ev.pos h0 (Ev.bind hb (Ev.now _))), Nat.le_trans (List.length_filter_le _ _) hl⟩
  have hp : ∀ k, rows_place.f l k = some ((cut l k : Int), placeB l k) := by
    intro k
    unfold rows_place.f
    rw [if_pos (by omega), placeI_cut ha]
  have hnx := next_nx h h.size (Nat.le_refl _)
  rw [show h.toList.take h.size = h.toList by rw [← len_toList, List.take_length]] at hnx
  have hne := next_ev h hh h.size (Nat.le_refl _)
  rw [head_whole] at hne
  have hsg := begin_seg ha h _ hnx
  generalize strOfNums (Q.raised h (trimLen h h.size)) = n at hne hsg hnx
  have hcl := cut_le l h
  have hc2 := cut_le l n
  have hlo : ¬ n.toList = [] → cut l h ≤ cut l n := by
    intro e
    refine tw_le _ _ l fun x _ hx => ?_
    rcases less_nx _ _ hx with h2 | h2
    · rw [← hnx] at h2; exact absurd h2 e
    · unfold kl; rw [hnx]; exact h2
  have hne' : Ev (fun k => rows_Next.f k h) n := hne
  unfold rows_Beginning.f
  refine Ev.bind (Ev.lift (hp h)) (Ev.bind hne' ?_)
  by_cases e : n.toList = []
  · rw [if_pos e] at hsg
    refine Ev.pos e (Ev.pos (by simp) (Ev.pos (by simp; omega) (Ev.pos (by omega) (Ev.lift ?_))))
    simp only [Int.toNat_natCast]
    rw [hsg]
    unfold api_Row_67.f
    rw [if_pos (Nat.le_trans (List.length_filter_le _ _) (by omega))]
    rfl
  · rw [if_neg e] at hsg
    have := hlo e
    refine Ev.neg e (Ev.bind (Ev.lift (hp n)) (Ev.pos (by simp) (Ev.pos (by simp; omega) (Ev.pos (by simp; omega) (Ev.lift ?_)))))
    simp only [Int.toNat_natCast]
    rw [hsg]
    unfold api_Row_67.f
    rw [if_pos (Nat.le_trans (List.length_filter_le _ _) (by omega))]
    rfl

theorem walkRowsBegins (W : World) (l : List S69) (A : Option Addr) (c : Nat) (hc : l.length ≤ c) (C : Kd.C k69 W A l.length l)
    (_ : l.length ≤ 9223372036854775807 ∧ l.length * Try.prog.bytesOf 69 ≤ 140737488351232 ∧ ∀ x ∈ l, x.f0.size ≤ 140737488351232 ∧ x.f1.size ≤ 140737488351232) (h : ByteArray) (hh : h.size ≤ 140737488351232) :
    Calls Try.prog 6 #[.slice A l.length c, .string h] W fun e w' => e = .returned (.bool true) ∧ Below W.heap.size W w' := by
  obtain ⟨n, hn⟩ : ∃ n, bagnalllaw_RowsBegins.f n l h = some true := Ev.rounds (by
    unfold bagnalllaw_RowsBegins.f
    obtain ⟨q, h1, h2, h3⟩ := begin_ev l h hh
    exact Ev.bind h1 (Ev.bind h2 (Ev.bind (same_ev q.1 (by omega)) (Ev.pos rfl (Ev.to (Ev.now _) (by simp))))))
  exact bagnalllaw_RowsBegins.calls n A c l h true W C hc hn
end Go.Proofs.Ytnjidfgjldkkcaa.Pure
-- Written for this seat by a program of its session (xp.py over the kit's printer).
namespace Go.Proofs.Ytnjidfgjldkkcaa.Q
open Go.RowKit Go.Proofs.YtnjidfgjldkkcaaW.PrintWords Go.Proofs.YtnjidfgjldkkcaaW.PrintLast Go.Proofs.YtnjidfgjldkkcaaW.PrintMore
attribute [local go_sem] max2_int min2_int max_two min_two max_three min_three max_four min_four xq_geq xq_leq xq_gtr   -- for this text's walks alone
set_option linter.unusedVariables false
set_option linter.unusedSimpArgs false

-- NOT PRINTED: function 80 (api_Row_string)

/-! ### rows_Value: function 45 -/
def rows_Value.f (l0 : List (S69)) (a1 : ByteArray) : Option (ByteArray × Bool) := (rows_place.f l0 a1).bind fun bt101 => (if bt101.2 = true then (if 0 ≤ bt101.1 then (if bt101.1 < (l0.length : Int) then (some ((rd_T69 l0 bt101.1).f1, true)) else (none)) else (none)) else (some ((⟨#[]⟩ : ByteArray), false)))
set_option maxHeartbeats 8000000 in
set_option maxRecDepth 100000 in
theorem rows_Value.calls (A0 : Option Addr) (c0 : Nat) (l0 : List (S69)) (a1 : ByteArray) (r1 : ByteArray) (r2 : Bool) (w : World) (hr0 : Kd.C k69 w A0 l0.length l0) (hc0 : l0.length ≤ c0) (h : rows_Value.f l0 a1 = some (r1, r2)) :
    Calls Try.prog 45 #[.slice A0 l0.length c0, .string a1] w fun e w' => e = .returned (.tuple #[.string r1, .bool r2]) ∧ Below w.heap.size w w' := by
  have HR0 := Aside0.mk hr0
  have HC0 := Aside0.mk hc0
  clear hr0 hc0
  have HB := Aside0.mk (Below.refl w.heap.size w)
  have H : ((rows_place.f l0 a1).bind fun bt101 => (if bt101.2 = true then (if 0 ≤ bt101.1 then (if bt101.1 < (l0.length : Int) then (some ((rd_T69 l0 bt101.1).f1, true)) else (none)) else (none)) else (some ((⟨#[]⟩ : ByteArray), false)))) = some (r1, r2) := h
  clear h
  replace H := Option.bind_eq_some_iff.mp H
  obtain ⟨⟨t101, t102⟩, A30, H⟩ := H
  replace H : (if t102 = true then (if 0 ≤ t101 then (if t101 < (l0.length : Int) then (some ((rd_T69 l0 t101).f1, true)) else (none)) else (none)) else (some ((⟨#[]⟩ : ByteArray), false))) = some (r1, r2) := H
  have A3 := Aside0.mk A30
  clear A30
  by_cases c4 : t102 = true
  · subst c4
    have H1 : (if 0 ≤ t101 then (if t101 < (l0.length : Int) then (some ((rd_T69 l0 t101).f1, true)) else (none)) else (none)) = some (r1, r2) := by rw [if_pos rfl] at H; exact H
    clear H
    have H := H1
    clear H1
    by_cases c5 : 0 ≤ t101
    · rw [if_pos c5] at H
      have c5b0 : decide (0 ≤ t101) = true := decide_eq_true c5
      clear c5
      by_cases c6 : t101 < (l0.length : Int)
      · rw [if_pos c6] at H
        have c6b0 : decide (t101 < (l0.length : Int)) = true := decide_eq_true c6
        clear c6
        simp only [Option.some.injEq, Prod.mk.injEq] at H
        obtain ⟨rfl, rfl⟩ := H
        go_enter Try.func45, Try.ntmps45
        go_wp2_with (first | ((with_reducible refine gate_callee (f := 66) rfl ?_); refine goesL_ (some 11) rfl rfl Try.func66 (by kernel_rfl) rfl #[.slice A0 l0.length c0, .string a1] rfl (by (try simp only [List.map_toArray, List.map_cons, List.map_nil]); first | done | rfl | (simp only [List.length_drop, List.length_take]; rfl)) ?_; (with_reducible refine (rows_place.calls _ _ l0 a1 t101 true _ ?side1 ?side2 A3.out).mono ?_); (case side1 => repeat (first | exact HR0.out | (with_reducible refine Kd.C_alloc ?_ _) | (with_reducible refine Kd.C_drewN ?_ _) | (with_reducible refine Kd.C_drew ?_))); (case side2 => exact HC0.out); rintro e w7 ⟨rfl, hb⟩; refine ⟨_, rfl, ?_⟩; have n0_ := Aside0.mk (below_step (by repeat (first | (with_reducible first | exact HB.out | apply below_alloc | apply pw_below_drewN | apply below_drew1) | exact HB.out)) hb); clear HB; have HB := n0_; clear n0_; (try clear hb); (try clear hb2); (try clear hk); (try clear hi); have p103 : 0 ≤ (t101 : Int) := of_decide_eq_true (by first | (with_reducible assumption) | assumption); have q103 : t101 < (l0.length : Int) := of_decide_eq_true (by first | (with_reducible assumption) | assumption); obtain ⟨ad103, e103, hx103_0, hx103_1⟩ := at_T69 HR0.out t101 p103 q103; cases e103; replace hx103_0 := (HB.out.cell (World.block_lt_of_cell? w _ hx103_0)).trans hx103_0; replace hx103_1 := (HB.out.cell (World.block_lt_of_cell? w _ hx103_1)).trans hx103_1; replace p103 := eq_true p103; replace q103 := eq_true q103))
        go_ret2
        exact ⟨by first | rfl | (simp [errW_none, errW_some] <;> rfl) | (simp [*, errW_none, errW_some] <;> rfl), by repeat (first | (with_reducible first | exact HB.out | apply below_alloc | apply pw_below_drewN | apply below_drew1) | exact HB.out)⟩
      · rw [if_neg c6] at H
        exact absurd H (by simp)
    · rw [if_neg c5] at H
      exact absurd H (by simp)
  · replace c4 := Bool.eq_false_iff.mpr c4
    subst c4
    have H1 : (some ((⟨#[]⟩ : ByteArray), false)) = some (r1, r2) := by rw [if_neg (show ¬ (false = true) by decide)] at H; exact H
    clear H
    have H := H1
    clear H1
    simp only [Option.some.injEq, Prod.mk.injEq] at H
    obtain ⟨rfl, rfl⟩ := H
    go_enter Try.func45, Try.ntmps45
    go_wp2_with (first | ((with_reducible refine gate_callee (f := 66) rfl ?_); refine goesL_ (some 11) rfl rfl Try.func66 (by kernel_rfl) rfl #[.slice A0 l0.length c0, .string a1] rfl (by (try simp only [List.map_toArray, List.map_cons, List.map_nil]); first | done | rfl | (simp only [List.length_drop, List.length_take]; rfl)) ?_; (with_reducible refine (rows_place.calls _ _ l0 a1 t101 false _ ?side1 ?side2 A3.out).mono ?_); (case side1 => repeat (first | exact HR0.out | (with_reducible refine Kd.C_alloc ?_ _) | (with_reducible refine Kd.C_drewN ?_ _) | (with_reducible refine Kd.C_drew ?_))); (case side2 => exact HC0.out); rintro e w8 ⟨rfl, hb⟩; refine ⟨_, rfl, ?_⟩; have n0_ := Aside0.mk (below_step (by repeat (first | (with_reducible first | exact HB.out | apply below_alloc | apply pw_below_drewN | apply below_drew1) | exact HB.out)) hb); clear HB; have HB := n0_; clear n0_; (try clear hb); (try clear hb2); (try clear hk); (try clear hi)))
    go_ret2
    exact ⟨by first | rfl | (simp [errW_none, errW_some] <;> rfl) | (simp [*, errW_none, errW_some] <;> rfl), by repeat (first | (with_reducible first | exact HB.out | apply below_alloc | apply pw_below_drewN | apply below_drew1) | exact HB.out)⟩

/-! ### rows_Find: function 20 -/
def rows_Find.f (k : Nat) (l0 : List (S69)) (a1 : ByteArray) : Option (ByteArray × Int) := (rows_Check.f k l0).bind fun t104 => (if t104 = 0 then ((rows_Value.f l0 a1).bind fun bt105 => (if bt105.2 = true then (some (bt105.1, 0)) else (some ((⟨#[]⟩ : ByteArray), 8)))) else (some ((⟨#[]⟩ : ByteArray), t104)))
theorem rows_Find.mono : ∀ a0 a1 k, LeO (rows_Find.f k a0 a1) (rows_Find.f (k + 1) a0 a1) := by
  intro a0 a1 k
  unfold rows_Find.f
  repeat' first
      | (with_reducible exact rows_Check.mono _ _)
      | (with_reducible exact LeO.refl _)
      | (with_reducible exact LeO.none _)
      | (with_reducible refine LeO.ite ?_ ?_)
      | (with_reducible refine LeO.bind ?_ (fun _ => ?_))
      | exact rows_Check.mono _ _
      | exact LeO.none _
      | refine LeO.ite ?_ ?_
      | refine LeO.bind ?_ (fun _ => ?_)
set_option maxHeartbeats 8000000 in
set_option maxRecDepth 100000 in
theorem rows_Find.calls (k : Nat) (A0 : Option Addr) (c0 : Nat) (l0 : List (S69)) (a1 : ByteArray) (r1 : ByteArray) (r2 : Int) (w : World) (hr0 : Kd.C k69 w A0 l0.length l0) (hc0 : l0.length ≤ c0) (h : rows_Find.f k l0 a1 = some (r1, r2)) :
    Calls Try.prog 20 #[.slice A0 l0.length c0, .string a1] w fun e w' => e = .returned (.tuple #[.string r1, .int .i64 r2]) ∧ Below w.heap.size w w' := by
  have HR0 := Aside0.mk hr0
  have HC0 := Aside0.mk hc0
  clear hr0 hc0
  have HB := Aside0.mk (Below.refl w.heap.size w)
  have H : ((rows_Check.f k l0).bind fun t104 => (if t104 = 0 then ((rows_Value.f l0 a1).bind fun bt105 => (if bt105.2 = true then (some (bt105.1, 0)) else (some ((⟨#[]⟩ : ByteArray), 8)))) else (some ((⟨#[]⟩ : ByteArray), t104)))) = some (r1, r2) := h
  clear h
  replace H := Option.bind_eq_some_iff.mp H
  obtain ⟨t104, A30, H⟩ := H
  replace H : (if t104 = 0 then ((rows_Value.f l0 a1).bind fun bt105 => (if bt105.2 = true then (some (bt105.1, 0)) else (some ((⟨#[]⟩ : ByteArray), 8)))) else (some ((⟨#[]⟩ : ByteArray), t104))) = some (r1, r2) := H
  have A3 := Aside0.mk A30
  clear A30
  by_cases c4 : t104 = 0
  · rw [if_pos c4] at H
    have c4b0 : (t104 == 0) = true := beq_iff_eq.mpr c4
    have c4b1 : (t104 != 0) = false := bne_eq_false_iff_eq.mpr c4
    clear c4
    replace H := Option.bind_eq_some_iff.mp H
    obtain ⟨⟨t105, t106⟩, A50, H⟩ := H
    replace H : (if t106 = true then (some (t105, 0)) else (some ((⟨#[]⟩ : ByteArray), 8))) = some (r1, r2) := H
    have A5 := Aside0.mk A50
    clear A50
    by_cases c6 : t106 = true
    · subst c6
      have H1 : (some (t105, 0)) = some (r1, r2) := by rw [if_pos rfl] at H; exact H
      clear H
      have H := H1
      clear H1
      simp only [Option.some.injEq, Prod.mk.injEq] at H
      obtain ⟨rfl, rfl⟩ := H
      go_enter Try.func20, Try.ntmps20
      go_wp2_with (first | ((with_reducible refine gate_callee (f := 18) rfl ?_); refine goesL_ (some 10) rfl rfl Try.func18 (by kernel_rfl) rfl #[.slice A0 l0.length c0] rfl (by (try simp only [List.map_toArray, List.map_cons, List.map_nil]); first | done | rfl | (simp only [List.length_drop, List.length_take]; rfl)) ?_; (with_reducible refine (rows_Check.calls k _ _ l0 t104 _ ?side1 ?side2 A3.out).mono ?_); (case side1 => repeat (first | exact HR0.out | (with_reducible refine Kd.C_alloc ?_ _) | (with_reducible refine Kd.C_drewN ?_ _) | (with_reducible refine Kd.C_drew ?_))); (case side2 => exact HC0.out); rintro e w7 ⟨rfl, hb⟩; refine ⟨_, rfl, ?_⟩; have n0_ := Aside0.mk (below_step (by repeat (first | (with_reducible first | exact HB.out | apply below_alloc | apply pw_below_drewN | apply below_drew1) | exact HB.out)) hb); clear HB; have HB := n0_; clear n0_; (try clear hb); (try clear hb2); (try clear hk); (try clear hi)) | ((with_reducible refine gate_callee (f := 45) rfl ?_); refine goesL_ (some 17) rfl rfl Try.func45 (by kernel_rfl) rfl #[.slice A0 l0.length c0, .string a1] rfl (by (try simp only [List.map_toArray, List.map_cons, List.map_nil]); first | done | rfl | (simp only [List.length_drop, List.length_take]; rfl)) ?_; (with_reducible refine (rows_Value.calls _ _ l0 a1 t105 true _ ?side1 ?side2 A5.out).mono ?_); (case side1 => repeat (first | exact (Kd.C_below HR0.out HB.out) | (with_reducible refine Kd.C_alloc ?_ _) | (with_reducible refine Kd.C_drewN ?_ _) | (with_reducible refine Kd.C_drew ?_))); (case side2 => exact HC0.out); rintro e w8 ⟨rfl, hb⟩; refine ⟨_, rfl, ?_⟩; have n0_ := Aside0.mk (below_step (by repeat (first | (with_reducible first | exact HB.out | apply below_alloc | apply pw_below_drewN | apply below_drew1) | exact HB.out)) hb); clear HB; have HB := n0_; clear n0_; (try clear hb); (try clear hb2); (try clear hk); (try clear hi)))
      go_ret2
      exact ⟨by first | rfl | (simp [errW_none, errW_some] <;> rfl) | (simp [*, errW_none, errW_some] <;> rfl), by repeat (first | (with_reducible first | exact HB.out | apply below_alloc | apply pw_below_drewN | apply below_drew1) | exact HB.out)⟩
    · replace c6 := Bool.eq_false_iff.mpr c6
      subst c6
      have H1 : (some ((⟨#[]⟩ : ByteArray), 8)) = some (r1, r2) := by rw [if_neg (show ¬ (false = true) by decide)] at H; exact H
      clear H
      have H := H1
      clear H1
      simp only [Option.some.injEq, Prod.mk.injEq] at H
      obtain ⟨rfl, rfl⟩ := H
      go_enter Try.func20, Try.ntmps20
      go_wp2_with (first | ((with_reducible refine gate_callee (f := 18) rfl ?_); refine goesL_ (some 10) rfl rfl Try.func18 (by kernel_rfl) rfl #[.slice A0 l0.length c0] rfl (by (try simp only [List.map_toArray, List.map_cons, List.map_nil]); first | done | rfl | (simp only [List.length_drop, List.length_take]; rfl)) ?_; (with_reducible refine (rows_Check.calls k _ _ l0 t104 _ ?side1 ?side2 A3.out).mono ?_); (case side1 => repeat (first | exact HR0.out | (with_reducible refine Kd.C_alloc ?_ _) | (with_reducible refine Kd.C_drewN ?_ _) | (with_reducible refine Kd.C_drew ?_))); (case side2 => exact HC0.out); rintro e w9 ⟨rfl, hb⟩; refine ⟨_, rfl, ?_⟩; have n0_ := Aside0.mk (below_step (by repeat (first | (with_reducible first | exact HB.out | apply below_alloc | apply pw_below_drewN | apply below_drew1) | exact HB.out)) hb); clear HB; have HB := n0_; clear n0_; (try clear hb); (try clear hb2); (try clear hk); (try clear hi)) | ((with_reducible refine gate_callee (f := 45) rfl ?_); refine goesL_ (some 17) rfl rfl Try.func45 (by kernel_rfl) rfl #[.slice A0 l0.length c0, .string a1] rfl (by (try simp only [List.map_toArray, List.map_cons, List.map_nil]); first | done | rfl | (simp only [List.length_drop, List.length_take]; rfl)) ?_; (with_reducible refine (rows_Value.calls _ _ l0 a1 t105 false _ ?side1 ?side2 A5.out).mono ?_); (case side1 => repeat (first | exact (Kd.C_below HR0.out HB.out) | (with_reducible refine Kd.C_alloc ?_ _) | (with_reducible refine Kd.C_drewN ?_ _) | (with_reducible refine Kd.C_drew ?_))); (case side2 => exact HC0.out); rintro e w10 ⟨rfl, hb⟩; refine ⟨_, rfl, ?_⟩; have n0_ := Aside0.mk (below_step (by repeat (first | (with_reducible first | exact HB.out | apply below_alloc | apply pw_below_drewN | apply below_drew1) | exact HB.out)) hb); clear HB; have HB := n0_; clear n0_; (try clear hb); (try clear hb2); (try clear hk); (try clear hi)))
      go_ret2
      exact ⟨by first | rfl | (simp [errW_none, errW_some] <;> rfl) | (simp [*, errW_none, errW_some] <;> rfl), by repeat (first | (with_reducible first | exact HB.out | apply below_alloc | apply pw_below_drewN | apply below_drew1) | exact HB.out)⟩
  · rw [if_neg c4] at H
    have c4b0 : (t104 == 0) = false := beq_eq_false_iff_ne.mpr c4
    have c4b1 : (t104 != 0) = true := bne_iff_ne.mpr c4
    simp only [Option.some.injEq, Prod.mk.injEq] at H
    obtain ⟨rfl, rfl⟩ := H
    go_enter Try.func20, Try.ntmps20
    go_wp2_with (first | ((with_reducible refine gate_callee (f := 18) rfl ?_); refine goesL_ (some 10) rfl rfl Try.func18 (by kernel_rfl) rfl #[.slice A0 l0.length c0] rfl (by (try simp only [List.map_toArray, List.map_cons, List.map_nil]); first | done | rfl | (simp only [List.length_drop, List.length_take]; rfl)) ?_; (with_reducible refine (rows_Check.calls k _ _ l0 t104 _ ?side1 ?side2 A3.out).mono ?_); (case side1 => repeat (first | exact HR0.out | (with_reducible refine Kd.C_alloc ?_ _) | (with_reducible refine Kd.C_drewN ?_ _) | (with_reducible refine Kd.C_drew ?_))); (case side2 => exact HC0.out); rintro e w11 ⟨rfl, hb⟩; refine ⟨_, rfl, ?_⟩; have n0_ := Aside0.mk (below_step (by repeat (first | (with_reducible first | exact HB.out | apply below_alloc | apply pw_below_drewN | apply below_drew1) | exact HB.out)) hb); clear HB; have HB := n0_; clear n0_; (try clear hb); (try clear hb2); (try clear hk); (try clear hi)))
    go_ret2
    exact ⟨by first | rfl | (simp [errW_none, errW_some] <;> rfl) | (simp [*, errW_none, errW_some] <;> rfl), by repeat (first | (with_reducible first | exact HB.out | apply below_alloc | apply pw_below_drewN | apply below_drew1) | exact HB.out)⟩

/-! ### bagnalllaw_RowsFinds: function 5 -/
def bagnalllaw_RowsFinds.f (k : Nat) (l0 : List (S69)) (a1 : ByteArray) : Option (Bool) := (rows_Find.f k l0 a1).bind fun bt107 => ((bagnallref_RowsFind.f k l0 a1).bind fun bt109 => (if bt107.1.toList = bt109.1.toList then (some (bt107.2 == bt109.2)) else (some false)))
theorem bagnalllaw_RowsFinds.mono : ∀ a0 a1 k, LeO (bagnalllaw_RowsFinds.f k a0 a1) (bagnalllaw_RowsFinds.f (k + 1) a0 a1) := by
  intro a0 a1 k
  unfold bagnalllaw_RowsFinds.f
  repeat' first
      | (with_reducible exact bagnallref_RowsFind.mono _ _ _)
      | (with_reducible exact rows_Find.mono _ _ _)
      | (with_reducible exact LeO.refl _)
      | (with_reducible exact LeO.none _)
      | (with_reducible refine LeO.ite ?_ ?_)
      | (with_reducible refine LeO.bind ?_ (fun _ => ?_))
      | exact bagnallref_RowsFind.mono _ _ _
      | exact rows_Find.mono _ _ _
      | exact LeO.none _
      | refine LeO.ite ?_ ?_
      | refine LeO.bind ?_ (fun _ => ?_)
set_option maxHeartbeats 8000000 in
set_option maxRecDepth 100000 in
theorem bagnalllaw_RowsFinds.calls (k : Nat) (A0 : Option Addr) (c0 : Nat) (l0 : List (S69)) (a1 : ByteArray) (r : Bool) (w : World) (hr0 : Kd.C k69 w A0 l0.length l0) (hc0 : l0.length ≤ c0) (h : bagnalllaw_RowsFinds.f k l0 a1 = some r) :
    Calls Try.prog 5 #[.slice A0 l0.length c0, .string a1] w fun e w' => e = .returned (.bool r) ∧ Below w.heap.size w w' := by
  have HR0 := Aside0.mk hr0
  have HC0 := Aside0.mk hc0
  clear hr0 hc0
  have HB := Aside0.mk (Below.refl w.heap.size w)
  have H : ((rows_Find.f k l0 a1).bind fun bt107 => ((bagnallref_RowsFind.f k l0 a1).bind fun bt109 => (if bt107.1.toList = bt109.1.toList then (some (bt107.2 == bt109.2)) else (some false)))) = some r := h
  clear h
  replace H := Option.bind_eq_some_iff.mp H
  obtain ⟨⟨t107, t108⟩, A30, H⟩ := H
  replace H : ((bagnallref_RowsFind.f k l0 a1).bind fun bt109 => (if t107.toList = bt109.1.toList then (some (t108 == bt109.2)) else (some false))) = some r := H
  have A3 := Aside0.mk A30
  clear A30
  replace H := Option.bind_eq_some_iff.mp H
  obtain ⟨⟨t109, t110⟩, A40, H⟩ := H
  replace H : (if t107.toList = t109.toList then (some (t108 == t110)) else (some false)) = some r := H
  have A4 := Aside0.mk A40
  clear A40
  by_cases c5 : t107.toList = t109.toList
  · rw [if_pos c5] at H
    have c5b0 : (t107.toList == t109.toList) = true := beq_iff_eq.mpr c5
    have c5b1 : (t107.toList != t109.toList) = false := bne_eq_false_iff_eq.mpr c5
    clear c5
    obtain rfl := Option.some.inj H
    go_enter Try.func5, Try.ntmps5
    go_wp2_with (first | ((with_reducible refine gate_callee (f := 20) rfl ?_); refine goesL_ (some 12) rfl rfl Try.func20 (by kernel_rfl) rfl #[.slice A0 l0.length c0, .string a1] rfl (by (try simp only [List.map_toArray, List.map_cons, List.map_nil]); first | done | rfl | (simp only [List.length_drop, List.length_take]; rfl)) ?_; (with_reducible refine (rows_Find.calls k _ _ l0 a1 t107 t108 _ ?side1 ?side2 A3.out).mono ?_); (case side1 => repeat (first | exact HR0.out | (with_reducible refine Kd.C_alloc ?_ _) | (with_reducible refine Kd.C_drewN ?_ _) | (with_reducible refine Kd.C_drew ?_))); (case side2 => exact HC0.out); rintro e w6 ⟨rfl, hb⟩; refine ⟨_, rfl, ?_⟩; have n0_ := Aside0.mk (below_step (by repeat (first | (with_reducible first | exact HB.out | apply below_alloc | apply pw_below_drewN | apply below_drew1) | exact HB.out)) hb); clear HB; have HB := n0_; clear n0_; (try clear hb); (try clear hb2); (try clear hk); (try clear hi)) | ((with_reducible refine gate_callee (f := 21) rfl ?_); refine goesL_ (some 18) rfl rfl Try.func21 (by kernel_rfl) rfl #[.slice A0 l0.length c0, .string a1] rfl (by (try simp only [List.map_toArray, List.map_cons, List.map_nil]); first | done | rfl | (simp only [List.length_drop, List.length_take]; rfl)) ?_; (with_reducible refine (bagnallref_RowsFind.calls k _ _ l0 a1 t109 t110 _ ?side1 ?side2 A4.out).mono ?_); (case side1 => repeat (first | exact (Kd.C_below HR0.out HB.out) | (with_reducible refine Kd.C_alloc ?_ _) | (with_reducible refine Kd.C_drewN ?_ _) | (with_reducible refine Kd.C_drew ?_))); (case side2 => exact HC0.out); rintro e w7 ⟨rfl, hb⟩; refine ⟨_, rfl, ?_⟩; have n0_ := Aside0.mk (below_step (by repeat (first | (with_reducible first | exact HB.out | apply below_alloc | apply pw_below_drewN | apply below_drew1) | exact HB.out)) hb); clear HB; have HB := n0_; clear n0_; (try clear hb); (try clear hb2); (try clear hk); (try clear hi)))
    go_ret
    exact ⟨by first | rfl | (simp [errW_none, errW_some] <;> rfl) | (simp [*, errW_none, errW_some] <;> rfl), by repeat (first | (with_reducible first | exact HB.out | apply below_alloc | apply pw_below_drewN | apply below_drew1) | exact HB.out)⟩
  · rw [if_neg c5] at H
    have c5b0 : (t107.toList == t109.toList) = false := beq_eq_false_iff_ne.mpr c5
    have c5b1 : (t107.toList != t109.toList) = true := bne_iff_ne.mpr c5
    obtain rfl := Option.some.inj H
    go_enter Try.func5, Try.ntmps5
    go_wp2_with (first | ((with_reducible refine gate_callee (f := 20) rfl ?_); refine goesL_ (some 12) rfl rfl Try.func20 (by kernel_rfl) rfl #[.slice A0 l0.length c0, .string a1] rfl (by (try simp only [List.map_toArray, List.map_cons, List.map_nil]); first | done | rfl | (simp only [List.length_drop, List.length_take]; rfl)) ?_; (with_reducible refine (rows_Find.calls k _ _ l0 a1 t107 t108 _ ?side1 ?side2 A3.out).mono ?_); (case side1 => repeat (first | exact HR0.out | (with_reducible refine Kd.C_alloc ?_ _) | (with_reducible refine Kd.C_drewN ?_ _) | (with_reducible refine Kd.C_drew ?_))); (case side2 => exact HC0.out); rintro e w8 ⟨rfl, hb⟩; refine ⟨_, rfl, ?_⟩; have n0_ := Aside0.mk (below_step (by repeat (first | (with_reducible first | exact HB.out | apply below_alloc | apply pw_below_drewN | apply below_drew1) | exact HB.out)) hb); clear HB; have HB := n0_; clear n0_; (try clear hb); (try clear hb2); (try clear hk); (try clear hi)) | ((with_reducible refine gate_callee (f := 21) rfl ?_); refine goesL_ (some 18) rfl rfl Try.func21 (by kernel_rfl) rfl #[.slice A0 l0.length c0, .string a1] rfl (by (try simp only [List.map_toArray, List.map_cons, List.map_nil]); first | done | rfl | (simp only [List.length_drop, List.length_take]; rfl)) ?_; (with_reducible refine (bagnallref_RowsFind.calls k _ _ l0 a1 t109 t110 _ ?side1 ?side2 A4.out).mono ?_); (case side1 => repeat (first | exact (Kd.C_below HR0.out HB.out) | (with_reducible refine Kd.C_alloc ?_ _) | (with_reducible refine Kd.C_drewN ?_ _) | (with_reducible refine Kd.C_drew ?_))); (case side2 => exact HC0.out); rintro e w9 ⟨rfl, hb⟩; refine ⟨_, rfl, ?_⟩; have n0_ := Aside0.mk (below_step (by repeat (first | (with_reducible first | exact HB.out | apply below_alloc | apply pw_below_drewN | apply below_drew1) | exact HB.out)) hb); clear HB; have HB := n0_; clear n0_; (try clear hb); (try clear hb2); (try clear hk); (try clear hi)))
    go_ret
    exact ⟨by first | rfl | (simp [errW_none, errW_some] <;> rfl) | (simp [*, errW_none, errW_some] <;> rfl), by repeat (first | (with_reducible first | exact HB.out | apply below_alloc | apply pw_below_drewN | apply below_drew1) | exact HB.out)⟩

end Go.Proofs.Ytnjidfgjldkkcaa.Q
/- rows.Find answers as the reference does, for every table and every key; no condition. -/
namespace Go.Proofs.Ytnjidfgjldkkcaa.Pure
open Go.RowKit Go.Proofs.Ytnjidfgjldkkcaa.Q Go.Proofs.YtnjidfgjldkkcaaW.PrintWords Go.Proofs.Ytnjidfgjldkkcaa.Plain

/-- The first row with the key. -/
def seek (k : ByteArray) : List S69 → ByteArray × Int
  | [] => ((⟨#[]⟩ : ByteArray), 8)
  | r :: t => if r.f0 = k then (r.f1, 0) else seek k t
theorem seek_ev (l : List S69) (k : ByteArray) (hl : l.length ≤ 40) : ∀ (d i : Nat), i + d = l.length → Ev (fun n => bagnallref_RowsFind.l0 n k l (l.length : Int) (i : Int)) (seek k (l.drop i))
  | 0, i, hi => by
    rw [List.drop_of_length_le (by omega)]
    exact Ev.step (fun k => rfl) (Ev.neg (by omega) (Ev.now _))
  | d + 1, i, hi => by
    have hlt : i < l.length := by omega
    have e2 : wrap64 ((i : Int) + 1) = ((i + 1 : Nat) : Int) := wrap_succ (by omega)
    rw [List.drop_eq_getElem_cons hlt]
    refine Ev.step (fun k => rfl) (Ev.pos (by omega) (Ev.pos (by omega) (Ev.pos (by omega) ?_)))
    rw [rd69 hlt, e2]
    unfold seek
    by_cases h : l[i].f0 = k
    · rw [if_pos h]; exact Ev.pos (toList_inj.2 h) (Ev.now _)
    · rw [if_neg h]; exact Ev.neg (fun e => h (toList_inj.1 e)) (seek_ev l k hl d (i + 1) (by omega))
theorem seek_none (k : ByteArray) : ∀ (l : List S69), (∀ r ∈ l, r.f0 ≠ k) → seek k l = ((⟨#[]⟩ : ByteArray), 8)
  | [], _ => rfl
  | r :: t, h => by unfold seek; rw [if_neg (h r (by simp)), seek_none k t (fun x hx => h x (by simp [hx]))]
theorem seek_at (k : ByteArray) : ∀ (l : List S69) (i : Nat) (h : i < l.length), Asc l → l[i].f0 = k → seek k l = (l[i].f1, 0)
  | r :: t, 0, h, _, e => by unfold seek; exact if_pos e
  | r :: t, i + 1, h, ha, e => by
    have h' : i < t.length := by simpa using h
    have e' : t[i].f0 = k := e
    have hr := (List.pairwise_cons.1 ha).1 _ (List.getElem_mem h')
    unfold seek
    rw [if_neg (fun e2 => by rw [e', ← e2, kl_irr] at hr; cases hr)]
    exact seek_at k t i h' (List.Pairwise.of_cons ha) e'

theorem find_ev (l : List S69) (k : ByteArray) : ∃ q, Ev (fun n => rows_Find.f n l k) q ∧ Ev (fun n => bagnallref_RowsFind.f n l k) q := by
  unfold rows_Find.f bagnallref_RowsFind.f
  by_cases h0 : ¬ rowsErr l = 0
  · exact ⟨((⟨#[]⟩ : ByteArray), rowsErr l), Ev.bind (check_ev l) (Ev.neg h0 (Ev.now _)), Ev.bind (fault_ev l) (Ev.neg h0 (Ev.now _))⟩
  replace h0 : rowsErr l = 0 := Decidable.not_not.1 h0
  obtain ⟨hl, _, ha⟩ := rowsErr_zero h0
  have hs := seek_ev l k hl l.length 0 (by omega)
  rw [List.drop_zero] at hs
  refine ⟨seek k l, Ev.bind (check_ev l) (Ev.pos h0 ?_), Ev.bind (fault_ev l) (Ev.pos h0 hs)⟩
  have hp : rows_place.f l k = some ((cut l k : Int), placeB l k) := by
    unfold rows_place.f
    rw [if_pos (by omega), placeI_cut ha]
  unfold rows_Value.f
  cases hb : placeB l k
  · have hn : ∀ r ∈ l, r.f0 ≠ k := by
      intro r hr e
      obtain ⟨i, hi, rfl⟩ := List.mem_iff_getElem.1 hr
      have hc := cut_at ha hi
      rw [e] at hc
      have := (placeB_iff ha k).2 ⟨by omega, by simp only [hc]; exact e⟩
      rw [hb] at this
      cases this
    rw [seek_none k l hn]
    refine Ev.bind (Ev.lift (r := ((⟨#[]⟩ : ByteArray), false)) ?_) (Ev.neg (by simp) (Ev.now _))
    rw [hp, hb, Option.bind_some, if_neg (by simp)]
  · obtain ⟨hc, he⟩ := (placeB_iff ha k).1 hb
    rw [seek_at k l _ hc ha he]
    refine Ev.bind (Ev.lift (r := (l[cut l k].f1, true)) ?_) (Ev.pos rfl (Ev.now _))
    rw [hp, hb, Option.bind_some, if_pos rfl, if_pos (by omega), if_pos (by omega), rd69 hc]

theorem walkRowsFinds (W : World) (l : List S69) (A : Option Addr) (c : Nat) (hc : l.length ≤ c) (C : Kd.C k69 W A l.length l)
    (_ : l.length ≤ 9223372036854775807 ∧ l.length * Try.prog.bytesOf 69 ≤ 140737488351232 ∧ ∀ x ∈ l, x.f0.size ≤ 140737488351232 ∧ x.f1.size ≤ 140737488351232) (k : ByteArray) (_ : k.size ≤ 140737488351232) :
    Calls Try.prog 5 #[.slice A l.length c, .string k] W fun e w' => e = .returned (.bool true) ∧ Below W.heap.size W w' := by
  obtain ⟨n, h⟩ : ∃ n, bagnalllaw_RowsFinds.f n l k = some true := Ev.rounds (by
    unfold bagnalllaw_RowsFinds.f
    obtain ⟨q, h1, h2⟩ := find_ev l k
    exact Ev.bind h1 (Ev.bind h2 (Ev.pos rfl (Ev.to (Ev.now _) (by simp)))))
  exact bagnalllaw_RowsFinds.calls n A c l k true W C hc h
end Go.Proofs.Ytnjidfgjldkkcaa.Pure
/- rows.Value, rows.Beginning at a table that ascends, walked to plain functions. -/
namespace Go.Proofs.Ytnjidfgjldkkcaa.Pure
open Go.RowKit Go.Proofs.Ytnjidfgjldkkcaa.Q Go.Proofs.YtnjidfgjldkkcaaW.PrintWords Go.Proofs.Ytnjidfgjldkkcaa.Plain
def hasB (k : ByteArray) (l : List S69) : Bool := decide ((seek k l).2 = 0)
theorem value_f (l : List S69) (k : ByteArray) (ha : Asc l) (hl : l.length ≤ 40) : rows_Value.f l k = some (if hasB k l = true then ((seek k l).1, true) else ((⟨#[]⟩ : ByteArray), false)) := by
  have hp : rows_place.f l k = some ((cut l k : Int), placeB l k) := by
    unfold rows_place.f
    rw [if_pos (by omega), placeI_cut ha]
  unfold rows_Value.f hasB
  cases hb : placeB l k
  · have hn : ∀ r ∈ l, r.f0 ≠ k := by
      intro r hr e
      obtain ⟨i, hi, rfl⟩ := List.mem_iff_getElem.1 hr
      have hc := cut_at ha hi
      rw [e] at hc
      have := (placeB_iff ha k).2 ⟨by omega, by simp only [hc]; exact e⟩
      rw [hb] at this
      cases this
    rw [seek_none k l hn, hp, hb, Option.bind_some, if_neg (by simp), if_neg (by simp)]
  · obtain ⟨hc, he⟩ := (placeB_iff ha k).1 hb
    rw [seek_at k l _ hc ha he, hp, hb, Option.bind_some, if_pos rfl, if_pos (by omega), if_pos (by omega), rd69 hc, if_pos (by simp)]
theorem value_walk (A : Option Addr) (c : Nat) (l : List S69) (k : ByteArray) (w : World) (hr : Kd.C k69 w A l.length l) (hc : l.length ≤ c) (ha : Asc l) (hl : l.length ≤ 40) :
    Calls Try.prog 45 #[.slice A l.length c, .string k] w fun e w' => e = .returned (.tuple #[.string (if hasB k l = true then (seek k l).1 else (⟨#[]⟩ : ByteArray)), .bool (hasB k l)]) ∧ Below w.heap.size w w' := by
  have h := value_f l k ha hl
  have e : (if hasB k l = true then ((seek k l).1, true) else ((⟨#[]⟩ : ByteArray), false)) = ((if hasB k l = true then (seek k l).1 else (⟨#[]⟩ : ByteArray)), hasB k l) := by
    cases hasB k l <;> rfl
  rw [e] at h
  exact rows_Value.calls A c l k _ _ w hr hc h
def beginF (h : ByteArray) (l : List S69) : List S69 := l.filter fun r => pfx h r.f0
theorem beginning_ev (l : List S69) (h : ByteArray) (hh : h.size ≤ 140737488351232) (ha : Asc l) (hl : l.length ≤ 40) : Ev (fun n => rows_Beginning.f n l h) (beginF h l) := by
  have hp : ∀ k, rows_place.f l k = some ((cut l k : Int), placeB l k) := by
    intro k
    unfold rows_place.f
    rw [if_pos (by omega), placeI_cut ha]
  have hnx := next_nx h h.size (Nat.le_refl _)
  rw [show h.toList.take h.size = h.toList by rw [← len_toList, List.take_length]] at hnx
  have hne := next_ev h hh h.size (Nat.le_refl _)
  rw [head_whole] at hne
  have hsg := begin_seg ha h _ hnx
  generalize strOfNums (Q.raised h (trimLen h h.size)) = n at hne hsg hnx
  have hcl := cut_le l h
  have hc2 := cut_le l n
  have hlo : ¬ n.toList = [] → cut l h ≤ cut l n := by
    intro e
    refine tw_le _ _ l fun x _ hx => ?_
    rcases less_nx _ _ hx with h2 | h2
    · rw [← hnx] at h2; exact absurd h2 e
    · unfold kl; rw [hnx]; exact h2
  have hne' : Ev (fun k => rows_Next.f k h) n := hne
  unfold rows_Beginning.f
  refine Ev.bind (Ev.lift (hp h)) (Ev.bind hne' ?_)
  by_cases e : n.toList = []
  · rw [if_pos e] at hsg
    refine Ev.pos e (Ev.pos (by simp) (Ev.pos (by simp; omega) (Ev.pos (by omega) (Ev.lift ?_))))
    simp only [Int.toNat_natCast]
    rw [hsg]
    unfold api_Row_67.f
    rw [if_pos (Nat.le_trans (List.length_filter_le _ _) (by omega))]
    rfl
  · rw [if_neg e] at hsg
    have := hlo e
    refine Ev.neg e (Ev.bind (Ev.lift (hp n)) (Ev.pos (by simp) (Ev.pos (by simp; omega) (Ev.pos (by simp; omega) (Ev.lift ?_)))))
    simp only [Int.toNat_natCast]
    rw [hsg]
    unfold api_Row_67.f
    rw [if_pos (Nat.le_trans (List.length_filter_le _ _) (by omega))]
    rfl
theorem beginning_walk (A : Option Addr) (c : Nat) (l : List S69) (h : ByteArray) (w : World) (hr : Kd.C k69 w A l.length l) (hc : l.length ≤ c) (ha : Asc l) (hl : l.length ≤ 40) (hh : h.size ≤ 140737488351232) :
    Calls Try.prog 46 #[.slice A l.length c, .string h] w fun e w' => ∃ v0_ : Value, e = .returned (v0_) ∧ Kd.R k69 69 w' w.heap.size (fun _ => True) v0_ (beginF h l) ∧ Below w.heap.size w w' := by
  obtain ⟨n, hn⟩ := (beginning_ev l h hh ha hl).rounds
  exact rows_Beginning.calls n A c l h _ w hr hc hn
theorem refBegin_ev (l : List S69) (h : ByteArray) (hl : l.length ≤ 40) : Ev (fun n => bagnallref_rowsBegin.f n l h) (beginF h l) := by
  have hs := begin_l0 l h hl l.length 0 [] (by omega) (by simp)
  rw [List.drop_zero, List.nil_append] at hs
  exact hs
end Go.Proofs.Ytnjidfgjldkkcaa.Pure
/- store.Store.Do, walked. -/
namespace Go.Proofs.Ytnjidfgjldkkcaa.Q
open Go.RowKit Go.Proofs.YtnjidfgjldkkcaaW.PrintWords Go.Proofs.YtnjidfgjldkkcaaW.PrintLast Go.Proofs.YtnjidfgjldkkcaaW.PrintMore Go.Proofs.Ytnjidfgjldkkcaa.Plain Go.Proofs.Ytnjidfgjldkkcaa.Pure
def getF (k : ByteArray) (t : List S69) : Int × List S69 := if hasB k t = true then (0, [⟨k, (seek k t).1⟩]) else (8, [])
/-- An act upon a store: what it tells; the file; the table. -/
def actF (d : List Int) (t : List S69) (a : S67) : (Int × List S69) × List Int × List S69 :=
  if a.f0 = 1 then (if sfaultF d t a.f1 ≠ 0 then ((sfaultF d t a.f1, []), d, t) else ((0, []), d ++ batchF a.f1, changedF t a.f1))
  else if a.f0 = 2 then (getF a.f2 t, d, t)
  else if a.f0 = 3 then ((0, beginF a.f2 t), d, t)
  else if a.f0 = 4 then ((0, []), batchF t, t)
  else if a.f0 = 5 then (if crashCode d t a.f1 a.f3 ≠ 0 then ((crashCode d t a.f1 a.f3, []), d, t) else if a.f3 < ((batchF a.f1).length : Int) then ((0, []), d, t) else ((0, []), d ++ batchF a.f1, changedF t a.f1))
  else ((3, []), d, t)
theorem crash_zero {d : List Int} {t cs : List S69} {n : Int} (h : crashCode d t cs n = 0) : 0 ≤ n ∧ sfaultF d t cs = 0 := by
  unfold crashCode at h
  by_cases hn : n < 0
  · rw [if_pos hn] at h; cases h
  · rw [if_neg hn] at h; exact ⟨by omega, h⟩
theorem actF_inv {d : List Int} {t : List S69} (h : SInv d t) (a : S67) : SInv (actF d t a).2.1 (actF d t a).2.2 := by
  unfold actF
  by_cases h1 : a.f0 = 1
  · rw [if_pos h1]
    by_cases hf : sfaultF d t a.f1 = 0
    · rw [if_neg (by simp [hf])]; exact h.commit hf
    · rw [if_pos hf]; exact h
  rw [if_neg h1]
  by_cases h2 : a.f0 = 2
  · rw [if_pos h2]; exact h
  rw [if_neg h2]
  by_cases h3 : a.f0 = 3
  · rw [if_pos h3]; exact h
  rw [if_neg h3]
  by_cases h4 : a.f0 = 4
  · rw [if_pos h4]; exact h.pack
  rw [if_neg h4]
  by_cases h5 : a.f0 = 5
  · rw [if_pos h5]
    by_cases hf : crashCode d t a.f1 a.f3 = 0
    · rw [if_neg (by simp [hf])]
      by_cases hn : a.f3 < ((batchF a.f1).length : Int)
      · rw [if_pos hn]; exact h
      · rw [if_neg hn]; exact h.commit (crash_zero hf).2
    · rw [if_pos hf]; exact h
  rw [if_neg h5]; exact h
theorem ModT.set_new {T : List Nat} {B : Nat} {w w1 : World} (h : ModT T B w w1) (k j : Nat) (hk : w.heap.size ≤ k) (u : Value) : ModT T B w (w1.setCell ⟨k, j, none⟩ u) := by
  refine ⟨h.os, h.tape, h.output, by simpa [World.setCell] using h.size, fun i hi => ?_⟩
  rw [Below.heap_setCell w1 _ _ i (by show i ≠ k; omega)]
  exact h.block i hi
/-- How an act ends. -/
def DoPost (base g : Nat) (w : World) (r : (Int × List S69) × List Int × List S69) (e : Ending) (w' : World) : Prop := ∃ rv, e = .returned (.agg #[.int .i64 r.1.1, rv]) ∧ k69.R 69 w' w.heap.size (fun _ => True) rv r.1.2 ∧ StoreAt w' base g r.2.1.length r.2.1 r.2.2 ∧ ModT [95, 5] base w w'
/-- The end of an act: a value is stored into the cell of the result, block h. -/
theorem do_end {base g h : Nat} {w w3 : World} {c : Int} {rv : Value} {rs : List S69} {s : Nat} {d : List Int} {t : List S69} {cs : Array Value} (hh : w3.heap[h]? = some (.cells cs 62 (0, 0))) (hw : w.heap.size ≤ h) (hR : k69.R 69 w3 w.heap.size (fun _ => True) rv rs) (hS : StoreAt w3 base g s d t) (hs : s = d.length) (hm : ModT [95, 5] base w w3) (u v : Value) :
    DoPost base g w ((c, rs), d, t) (.returned (.agg #[.int .i64 c, rv])) ((w3.setCell ⟨h, 0, none⟩ u).setCell ⟨h, 1, none⟩ v) := by
  subst hs
  have hh1 := heap_set1 (j := 0) (u := u) hh
  have m : ModT [62] 0 w3 ((w3.setCell ⟨h, 0, none⟩ u).setCell ⟨h, 1, none⟩ v) := (ModT.set_ hh (by simp) (Nat.zero_le _) _).trans (ModT.set_ hh1 (by simp) (Nat.zero_le _) _)
  exact ⟨rv, rfl, rowsMod hR m (by simp), hS.mod m (by simp) (by simp) (by simp), (hm.set_new h 0 hw u).set_new h 1 hw v⟩
theorem size62 : (Try.prog.info? 62).map (·.size) = some 2 := by kernel_rfl
theorem do_ret {base g h : Nat} {w w3 : World} {c : Int} {rv : Value} {rs : List S69} {s : Nat} {d : List Int} {t : List S69} {u0 v0 : Value} {a : Act} {r : (Int × List S69) × List Int × List S69} (hr : r = ((c, rs), d, t)) (ha : a.tmps.getD 4 undef = .pointer (some ⟨h, 0, none⟩)) (hdf : a.defers = [])
    (hh : w3.heap[h]? = some (.cells #[u0, v0] 62 (0, 0))) (hw : w.heap.size ≤ h) (hR : k69.R 69 w3 w.heap.size (fun _ => True) rv rs) (hS : StoreAt w3 base g s d t) (hs : s = d.length) (hm : ModT [95, 5] base w w3) :
    bodyPost Try.prog Try.f61 (DoPost base g w r) .ret a ((w3.setCell ⟨h, 0, none⟩ (.int .i64 c)).setCell ⟨h, 1, none⟩ rv) := by
  subst hr
  exact bodyPost_ret (results_cell_row (P := Try.prog) rfl a.tmps _ h 62 #[.int .i64 c, rv] (0, 0) _ ha (by rw [heap_set1 (heap_set1 hh)]; rfl) Try.underlying62 rfl size62) hdf (do_end hh hw hR hS hs hm _ _)
set_option maxRecDepth 100000 in
set_option maxHeartbeats 8000000 in
theorem do_walk (base g : Nat) (d : List Int) (t : List S69) (a : S67) (A : Option Addr) (c : Nat) (w : World) (hs : StoreAt w base g d.length d t) (hi : SInv d t) (hC : ∀ W, ModT [95, 5] base w W → Kd.C k69 W A a.f1.length a.f1) (hc : a.f1.length ≤ c) (hk : a.f2.size ≤ 140737488351232) :
    Calls Try.prog 61 #[.pointer (some ⟨g, 0, none⟩), .agg #[.int .i64 a.f0, .slice A a.f1.length c, .string a.f2, .int .i64 a.f3]] w (DoPost base g w (actF d t a)) := by
  obtain ⟨k, cs, key, n⟩ := a
  simp only at hC hc hk ⊢
  obtain ⟨W1, hW1⟩ : ∃ W1, W1 = (w.alloc (.cells #[.int .i64 k, .slice A cs.length c, .string key, .int .i64 n] 67)).alloc (.cells #[.int .i64 0, .slice none 0 0] 62) := ⟨_, rfl⟩
  have HB1 : Below w.heap.size w W1 := hW1 ▸ below_alloc (below_alloc (Below.refl _ _) _) _
  have HS := Aside0.mk (hs.below HB1)
  have HM1 : Aside0 (ModT [95, 5] base w W1) := ⟨ModT.of_below HB1⟩
  have HC := Aside0.mk (fun W (hW : ModT [95, 5] base W1 W) => hC W (HM1.out.trans hW))
  have H0 := Aside0.mk hc
  have hl := hi.len
  have hd := (show d.length ≤ 1200 by obtain ⟨_, _, _, _, h⟩ := hi; exact h)
  have HI := Aside0.mk hi
  have hhr : Aside0 (W1.heap[w.heap.size + 1]? = some (.cells #[.int .i64 0, .slice none 0 0] 62 (0, 0))) := ⟨by rw [hW1, show w.heap.size + 1 = (w.alloc (.cells #[.int .i64 k, .slice A cs.length c, .string key, .int .i64 n] 67)).heap.size by simp]; exact blk_new _ _⟩
  have hha : W1.heap[w.heap.size]? = some (.cells #[.int .i64 k, .slice A cs.length c, .string key, .int .i64 n] 67 (0, 0)) := by rw [hW1]; exact (below_alloc (Below.refl _ _) _).block _ (by simp) |>.trans (blk_new w _)
  have x0 : W1.cell? ⟨w.heap.size, 0, none⟩ = some (.int .i64 k) := by rw [blk_cell hha]; rfl
  have x1 : W1.cell? ⟨w.heap.size, 1, none⟩ = some (.slice A cs.length c) := by rw [blk_cell hha]; rfl
  have x2 : W1.cell? ⟨w.heap.size, 2, none⟩ = some (.string key) := by rw [blk_cell hha]; rfl
  have x3 : W1.cell? ⟨w.heap.size, 3, none⟩ = some (.int .i64 n) := by rw [blk_cell hha]; rfl
  have hsz : w.heap.size ≤ w.heap.size + 1 := by omega
  have HS0 := Aside0.mk hs
  clear hs hC hi hha
  by_cases k1 : k = 1
  · subst k1
    by_cases hf : sfaultF d t cs = 0
    · have e1 : Aside0 (actF d t ⟨1, cs, key, n⟩ = ((0, []), d ++ batchF cs, changedF t cs)) := ⟨by unfold actF; rw [if_pos rfl, if_neg (by simp [hf])]⟩
      have hcall := commit_walk base g d.length d t cs A c W1 HS.out HC.out hc hl hd
      rw [show commitF d.length d t cs = ((d ++ batchF cs).length, d ++ batchF cs, changedF t cs) by unfold commitF; rw [if_neg (by simp [hf])], hf] at hcall
      have Hcall := Aside0.mk hcall
      clear hcall
      subst hW1
      go_enter Try.func61, Try.ntmps61
      go_wp2_with (go_at_call 77; refine Hcall.out.mono ?_; rintro e w3 ⟨rfl, hs3, hm3⟩; have HS3 := Aside0.mk hs3; have HM3 := Aside0.mk (HM1.out.trans hm3); have HH3 := Aside0.mk (hm3.keep hhr.out (by simp)); have z0 : w3.cell? ⟨w.heap.size + 1, 0, none⟩ = some (.int .i64 0) := (by rw [blk_cell HH3.out]; rfl); have z1 : w3.cell? ⟨w.heap.size + 1, 1, none⟩ = some (.slice none 0 0) := (by rw [blk_cell HH3.out]; rfl); have f0 := blk_frozen HH3.out 0; have f1 := blk_frozen HH3.out 1; clear hs3 hm3)
      exact do_ret e1.out rfl rfl HH3.out hsz (Kd.R_nil _ _ _ _ _) HS3.out rfl HM3.out
    · have e1 : Aside0 (actF d t ⟨1, cs, key, n⟩ = ((sfaultF d t cs, []), d, t)) := ⟨by unfold actF; rw [if_pos rfl, if_pos hf]⟩
      have hcall := commit_walk base g d.length d t cs A c W1 HS.out HC.out hc hl hd
      rw [show commitF d.length d t cs = (d.length, d, t) by unfold commitF; rw [if_pos hf]] at hcall
      have Hcall := Aside0.mk hcall
      clear hcall hf
      generalize sfaultF d t cs = f at *
      subst hW1
      go_enter Try.func61, Try.ntmps61
      go_wp2_with (go_at_call 77; refine Hcall.out.mono ?_; rintro e w3 ⟨rfl, hs3, hm3⟩; have HS3 := Aside0.mk hs3; have HM3 := Aside0.mk (HM1.out.trans hm3); have HH3 := Aside0.mk (hm3.keep hhr.out (by simp)); have z0 : w3.cell? ⟨w.heap.size + 1, 0, none⟩ = some (.int .i64 0) := (by rw [blk_cell HH3.out]; rfl); have z1 : w3.cell? ⟨w.heap.size + 1, 1, none⟩ = some (.slice none 0 0) := (by rw [blk_cell HH3.out]; rfl); have f0 := blk_frozen HH3.out 0; have f1 := blk_frozen HH3.out 1; clear hs3 hm3)
      exact do_ret e1.out rfl rfl HH3.out hsz (Kd.R_nil _ _ _ _ _) HS3.out rfl HM3.out
  by_cases k4 : k = 4
  · subst k4
    have e1 : Aside0 (actF d t ⟨4, cs, key, n⟩ = ((0, []), batchF t, t)) := ⟨by unfold actF; rw [if_neg (by simp), if_neg (by simp), if_neg (by simp), if_pos rfl]⟩
    have hcall := pack_walk base g d.length d t W1 HS.out hl (fun r hr => ((HI.out.full r hr).1).2) HI.out.batch
    have Hcall := Aside0.mk hcall
    clear hcall
    subst hW1
    go_enter Try.func61, Try.ntmps61
    go_wp2_with (go_at_call 78; refine Hcall.out.mono ?_; rintro e w3 ⟨rfl, hs3, hm3⟩; have HS3 := Aside0.mk hs3; have HM3 := Aside0.mk (HM1.out.trans hm3); have HH3 := Aside0.mk (hm3.keep hhr.out (by simp)); have z0 : w3.cell? ⟨w.heap.size + 1, 0, none⟩ = some (.int .i64 0) := (by rw [blk_cell HH3.out]; rfl); have z1 : w3.cell? ⟨w.heap.size + 1, 1, none⟩ = some (.slice none 0 0) := (by rw [blk_cell HH3.out]; rfl); have f0 := blk_frozen HH3.out 0; have f1 := blk_frozen HH3.out 1; clear hs3 hm3)
    exact do_ret e1.out rfl rfl HH3.out hsz (Kd.R_nil _ _ _ _ _) HS3.out rfl HM3.out
  by_cases k5 : k = 5
  · subst k5
    by_cases hf : crashCode d t cs n = 0
    · obtain ⟨hn0, hsf⟩ := crash_zero hf
      obtain ⟨m, rfl⟩ : ∃ m : Nat, n = m := ⟨n.toNat, by omega⟩
      have hcm := HI.out.commit hsf
      obtain ⟨-, -, hbl⟩ := sfaultF_ok hsf
      by_cases hm : (m : Int) < ((batchF cs).length : Int)
      · have e1 : Aside0 (actF d t ⟨5, cs, key, (m : Int)⟩ = ((0, []), d, t)) := ⟨by unfold actF; rw [if_neg (by simp), if_neg (by simp), if_neg (by simp), if_neg (by simp), if_pos rfl, if_neg (by simp [hf]), if_pos hm]⟩
        have hfl : fallN d.length m (d ++ batchF cs).length = d.length + m := by unfold fallN; rw [List.length_append]; omega
        have htk : (d ++ batchF cs).take (fallN d.length m (d ++ batchF cs).length) = d ++ (batchF cs).take m := by rw [hfl, List.take_append, List.take_of_length_le (by omega), Nat.add_sub_cancel_left]
        have hcall := crash_good base g d.length d t cs m A c W1 HS.out HC.out hc hl hd hsf hcm.byte t d.length (by rw [htk]; exact HI.out.read hsf m (by omega)) (by rw [htk, List.length_append]; omega)
        rw [htk, List.take_left] at hcall
        have Hcall := Aside0.mk hcall
        clear hcall htk hfl hcm
        subst hW1
        go_enter Try.func61, Try.ntmps61
        go_wp2_with (go_at_call 79; refine Hcall.out.mono ?_; rintro e w3 ⟨rfl, hs3, hm3⟩; have HS3 := Aside0.mk hs3; have HM3 := Aside0.mk (HM1.out.trans hm3); have HH3 := Aside0.mk (hm3.keep hhr.out (by simp)); have z0 : w3.cell? ⟨w.heap.size + 1, 0, none⟩ = some (.int .i64 0) := (by rw [blk_cell HH3.out]; rfl); have z1 : w3.cell? ⟨w.heap.size + 1, 1, none⟩ = some (.slice none 0 0) := (by rw [blk_cell HH3.out]; rfl); have f0 := blk_frozen HH3.out 0; have f1 := blk_frozen HH3.out 1; clear hs3 hm3)
        exact do_ret e1.out rfl rfl HH3.out hsz (Kd.R_nil _ _ _ _ _) HS3.out rfl HM3.out
      · have e1 : Aside0 (actF d t ⟨5, cs, key, (m : Int)⟩ = ((0, []), d ++ batchF cs, changedF t cs)) := ⟨by unfold actF; rw [if_neg (by simp), if_neg (by simp), if_neg (by simp), if_neg (by simp), if_pos rfl, if_neg (by simp [hf]), if_neg hm]⟩
        have hfl : fallN d.length m (d ++ batchF cs).length = (d ++ batchF cs).length := by unfold fallN; rw [List.length_append]; omega
        have htk : (d ++ batchF cs).take (fallN d.length m (d ++ batchF cs).length) = d ++ batchF cs := by rw [hfl, List.take_length]
        have hcall := crash_good base g d.length d t cs m A c W1 HS.out HC.out hc hl hd hsf hcm.byte (changedF t cs) (d ++ batchF cs).length (by rw [htk]; exact hcm.whole) (by rw [htk]; exact Nat.le_refl _)
        rw [htk, List.take_length] at hcall
        have Hcall := Aside0.mk hcall
        clear hcall htk hfl hcm
        subst hW1
        go_enter Try.func61, Try.ntmps61
        go_wp2_with (go_at_call 79; refine Hcall.out.mono ?_; rintro e w3 ⟨rfl, hs3, hm3⟩; have HS3 := Aside0.mk hs3; have HM3 := Aside0.mk (HM1.out.trans hm3); have HH3 := Aside0.mk (hm3.keep hhr.out (by simp)); have z0 : w3.cell? ⟨w.heap.size + 1, 0, none⟩ = some (.int .i64 0) := (by rw [blk_cell HH3.out]; rfl); have z1 : w3.cell? ⟨w.heap.size + 1, 1, none⟩ = some (.slice none 0 0) := (by rw [blk_cell HH3.out]; rfl); have f0 := blk_frozen HH3.out 0; have f1 := blk_frozen HH3.out 1; clear hs3 hm3)
        exact do_ret e1.out rfl rfl HH3.out hsz (Kd.R_nil _ _ _ _ _) HS3.out rfl HM3.out
    · have e1 : Aside0 (actF d t ⟨5, cs, key, n⟩ = ((crashCode d t cs n, []), d, t)) := ⟨by unfold actF; rw [if_neg (by simp), if_neg (by simp), if_neg (by simp), if_neg (by simp), if_pos rfl, if_pos hf]⟩
      have hcall := crash_bad base g d.length d t cs n A c W1 HS.out (HC.out _ (ModT.refl _ _ _)) hc hl hd hf
      have Hcall := Aside0.mk hcall
      clear hcall hf
      generalize crashCode d t cs n = f at *
      subst hW1
      go_enter Try.func61, Try.ntmps61
      go_wp2_with (go_at_call 79; refine Hcall.out.mono ?_; rintro e w3 ⟨rfl, hs3, hm3⟩; have HS3 := Aside0.mk hs3; have HM3 := Aside0.mk (HM1.out.trans hm3); have HH3 := Aside0.mk (hm3.keep hhr.out (by simp)); have z0 : w3.cell? ⟨w.heap.size + 1, 0, none⟩ = some (.int .i64 0) := (by rw [blk_cell HH3.out]; rfl); have z1 : w3.cell? ⟨w.heap.size + 1, 1, none⟩ = some (.slice none 0 0) := (by rw [blk_cell HH3.out]; rfl); have f0 := blk_frozen HH3.out 0; have f1 := blk_frozen HH3.out 1; clear hs3 hm3)
      exact do_ret e1.out rfl rfl HH3.out hsz (Kd.R_nil _ _ _ _ _) HS3.out rfl HM3.out
  by_cases k2 : k = 2
  · subst k2
    obtain ⟨A1, c1, B1, b1, hD1, hR1⟩ := HS.out
    have y2 : W1.cell? ⟨g, 2, none⟩ = some (.slice B1 t.length b1) := by rw [blk_cell hD1.1]; rfl
    have hgl : g < W1.heap.size := blk_lt hD1.1
    have hcap := Aside0.mk (Kd.R_reads' hR1)
    clear hD1 hR1
    have Hcall : Aside0 (∀ W, Below W1.heap.size W1 W → Calls Try.prog 45 #[.slice B1 t.length b1, .string key] W fun e w' => e = .returned (.tuple #[.string (if hasB key t = true then (seek key t).1 else (⟨#[]⟩ : ByteArray)), .bool (hasB key t)]) ∧ Below W.heap.size W w') := ⟨fun W hW => value_walk B1 b1 t key W (Kd.C_below hcap.out.2.2 hW) hcap.out.2.1 HI.out.asc hl⟩
    have hlt : w.heap.size < W1.heap.size := World.block_lt_of_cell? W1 _ x2
    have hS : ∀ w' : World, Below W1.heap.size W1 w' → (w'.cell? ⟨g, 2, none⟩ = some (.slice B1 t.length b1) ∧ w'.cell? ⟨w.heap.size, 2, none⟩ = some (.string key) ∧ Below W1.heap.size W1 w') := fun w' h => ⟨(h.cell hgl).trans y2, (h.cell hlt).trans x2, h⟩
    obtain ⟨v, hv⟩ : ∃ v, Aside0 (v = (seek key t).1) := ⟨_, ⟨rfl⟩⟩
    have e1 : Aside0 (actF d t ⟨2, cs, key, n⟩ = ((if hasB key t = true then (0, [⟨key, v⟩]) else (8, [])), d, t)) := ⟨by unfold actF getF; rw [if_neg (by simp), if_pos rfl, hv.out]⟩
    rw [← hv.out] at Hcall
    clear hv
    have HSb : Aside0 (∀ W, Below W1.heap.size W1 W → StoreAt W base g d.length d t) := ⟨fun W hW => HS.out.below hW⟩
    have HMb : Aside0 (∀ W, Below W1.heap.size W1 W → ModT [95, 5] base w W) := ⟨fun W hW => HM1.out.trans (ModT.of_below hW)⟩
    have HHb : Aside0 (∀ W, Below W1.heap.size W1 W → W.heap[w.heap.size + 1]? = some (.cells #[.int .i64 0, .slice none 0 0] 62 (0, 0))) := ⟨fun W hW => (hW.block _ (blk_lt hhr.out)).trans hhr.out⟩
    have hsz1 := HB1.size
    obtain ⟨bb, hbb⟩ : ∃ bb, bb = hasB key t := ⟨_, rfl⟩
    rw [← hbb] at Hcall e1
    clear hbb
    cases bb <;> simp only [Bool.false_eq_true, ↓reduceIte] at Hcall e1
    · go_enter Try.func61, Try.ntmps61
      go_wp2
      rw [← hW1]
      clear hW1
      go_region_held3 (fun w' => w'.cell? ⟨g, 2, none⟩ = some (.slice B1 t.length b1) ∧ w'.cell? ⟨w.heap.size, 2, none⟩ = some (.string key) ∧ Below W1.heap.size W1 w') (first | assumption | exact hS _ (below_drew (Below.refl _ _))) (first | (go_at_call 45; refine (Hcall.out _ (And.right (And.right (by assumption)))).mono ?_; rintro e w3 ⟨rfl, hb⟩; have hS1 := hS _ (below_step (And.right (And.right (by assumption))) hb); clear hb))
      all_goals
        have hBW := hS1.2.2
        have HH3 := Aside0.mk (HHb.out _ hBW)
        have z0 : w3.cell? ⟨w.heap.size + 1, 0, none⟩ = some (.int .i64 0) := by rw [blk_cell HH3.out]; rfl
        have z1 : w3.cell? ⟨w.heap.size + 1, 1, none⟩ = some (.slice none 0 0) := by rw [blk_cell HH3.out]; rfl
        have f0 := blk_frozen HH3.out 0
        have f1 := blk_frozen HH3.out 1
        go_wp2
        exact do_ret e1.out rfl rfl HH3.out hsz (Kd.R_nil _ _ _ _ _) (HSb.out _ hBW) rfl (HMb.out _ hBW)
    · go_enter Try.func61, Try.ntmps61
      go_wp2
      rw [← hW1]
      clear hW1
      go_region_held3 (fun w' => w'.cell? ⟨g, 2, none⟩ = some (.slice B1 t.length b1) ∧ w'.cell? ⟨w.heap.size, 2, none⟩ = some (.string key) ∧ Below W1.heap.size W1 w') (first | assumption | exact hS _ (below_drew (Below.refl _ _))) (first | (go_at_call 45; refine (Hcall.out _ (And.right (And.right (by assumption)))).mono ?_; rintro e w3 ⟨rfl, hb⟩; have hS1 := hS _ (below_step (And.right (And.right (by assumption))) hb); clear hb))
      all_goals
        have hBW := hS1.2.2
        have x2' := hS1.2.1
        have hBA : Below W1.heap.size W1 (w3.alloc (.cells #[.string key, .string v] 69)) := below_alloc hBW _
        have HH3 := Aside0.mk (HHb.out _ hBA)
        have HH2 := Aside0.mk (HHb.out _ hBW)
        have z0 : (w3.alloc (.cells #[.string key, .string v] 69)).cell? ⟨w.heap.size + 1, 0, none⟩ = some (.int .i64 0) := by rw [blk_cell HH3.out]; rfl
        have z1 : (w3.alloc (.cells #[.string key, .string v] 69)).cell? ⟨w.heap.size + 1, 1, none⟩ = some (.slice none 0 0) := by rw [blk_cell HH3.out]; rfl
        have f0 := blk_frozen HH3.out 0
        have f1 := blk_frozen HH3.out 1
        have hsz3 := hBW.size
        have hne : ¬ w.heap.size + 1 = w3.heap.size := by have := blk_lt HH2.out; omega
        have hRn : k69.R 69 (w3.alloc (.cells #[.string key, .string v] 69)) w.heap.size (fun _ => True) (.slice (some ⟨w3.heap.size, 0, none⟩) 1 1) [⟨key, v⟩] := row_mk (by omega) (blk_new w3 _) rfl (Nat.le_refl _) (by decide) rfl rfl
        go_wp2
        exact do_ret e1.out rfl rfl HH3.out hsz hRn (HSb.out _ hBA) rfl (HMb.out _ hBA)
  by_cases k3 : k = 3
  · subst k3
    obtain ⟨A1, c1, B1, b1, hD1, hR1⟩ := HS.out
    have y2 : W1.cell? ⟨g, 2, none⟩ = some (.slice B1 t.length b1) := by rw [blk_cell hD1.1]; rfl
    have hcap := Aside0.mk (Kd.R_reads' hR1)
    clear hD1 hR1
    have e1 : Aside0 (actF d t ⟨3, cs, key, n⟩ = ((0, beginF key t), d, t)) := ⟨by unfold actF; rw [if_neg (by simp), if_neg (by simp), if_pos rfl]⟩
    have Hcall : Aside0 (∀ W, Below W1.heap.size W1 W → Calls Try.prog 46 #[.slice B1 t.length b1, .string key] W fun e w' => ∃ v0_ : Value, e = .returned (v0_) ∧ Kd.R k69 69 w' W.heap.size (fun _ => True) v0_ (beginF key t) ∧ Below W.heap.size W w') := ⟨fun W hW => beginning_walk B1 b1 t key W (Kd.C_below hcap.out.2.2 hW) hcap.out.2.1 HI.out.asc hl hk⟩
    have HSb : Aside0 (∀ W, Below W1.heap.size W1 W → StoreAt W base g d.length d t) := ⟨fun W hW => HS.out.below hW⟩
    have HMb : Aside0 (∀ W, Below W1.heap.size W1 W → ModT [95, 5] base w W) := ⟨fun W hW => HM1.out.trans (ModT.of_below hW)⟩
    have HHb : Aside0 (∀ W, Below W1.heap.size W1 W → W.heap[w.heap.size + 1]? = some (.cells #[.int .i64 0, .slice none 0 0] 62 (0, 0))) := ⟨fun W hW => (hW.block _ (blk_lt hhr.out)).trans hhr.out⟩
    have hsz1 := HB1.size
    generalize beginF key t = bs at *
    go_enter Try.func61, Try.ntmps61
    go_wp2
    rw [← hW1]
    clear hW1
    go_still_tail 6, (by kernel_rfl)
    change wpList _ _ _ _ _ W1.drew
    have hbd : Aside0 (Below W1.heap.size W1 W1.drew) := ⟨below_drew (Below.refl _ _)⟩
    generalize W1.drew = w2 at hbd ⊢
    go_wp2_with (go_at_call 46; refine (Hcall.out _ hbd.out).mono ?_; rintro e w3 ⟨v3, rfl, ho, hb⟩; obtain ⟨A3, c3, rfl⟩ := Kd.R_slice ho; have hBW := Aside0.mk (below_step hbd.out hb); have HR3 := Aside0.mk (Kd.R_lower ho (Nat.le_trans hsz1 hbd.out.size)); have HH3 := Aside0.mk (HHb.out _ hBW.out); have z0 : w3.cell? ⟨w.heap.size + 1, 0, none⟩ = some (.int .i64 0) := (by rw [blk_cell HH3.out]; rfl); have z1 : w3.cell? ⟨w.heap.size + 1, 1, none⟩ = some (.slice none 0 0) := (by rw [blk_cell HH3.out]; rfl); have f0 := blk_frozen HH3.out 0; have f1 := blk_frozen HH3.out 1; clear ho hb)
    exact do_ret e1.out rfl rfl HH3.out hsz HR3.out (HSb.out _ hBW.out) rfl (HMb.out _ hBW.out)
  have e1 : Aside0 (actF d t ⟨k, cs, key, n⟩ = ((3, []), d, t)) := ⟨by unfold actF; rw [if_neg k1, if_neg k2, if_neg k3, if_neg k4, if_neg k5]⟩
  have HB2 := Aside0.mk HB1
  clear HB1
  subst hW1
  go_enter Try.func61, Try.ntmps61
  go_wp2
  refine bodyPost_ret (results_cell_row (P := Try.prog) rfl _ _ (w.heap.size + 1) 62 #[.int .i64 3, .slice none 0 0] (0, 0) _ rfl ?_ Try.underlying62 rfl size62) rfl ?_
  · rw [show w.heap.size + 1 = (w.alloc (.cells #[.int .i64 k, .slice A cs.length c, .string key, .int .i64 n] 67)).heap.size by simp]; exact blk_new _ _
  · rw [e1.out]
    have hb2 : ∀ o1 o2, Below w.heap.size w ((w.alloc o1).alloc o2) := fun o1 o2 => below_alloc (below_alloc (Below.refl _ _) _) _
    exact ⟨_, rfl, Kd.R_nil _ _ _ _ _, HS0.out.below (hb2 _ _), ModT.of_below (hb2 _ _)⟩
end Go.Proofs.Ytnjidfgjldkkcaa.Q
/- store.Play, walked. -/
namespace Go.Proofs.Ytnjidfgjldkkcaa.Q
open Go.RowKit Go.Proofs.YtnjidfgjldkkcaaW.PrintWords Go.Proofs.YtnjidfgjldkkcaaW.PrintLast Go.Proofs.YtnjidfgjldkkcaaW.PrintMore Go.Proofs.Ytnjidfgjldkkcaa.Plain Go.Proofs.Ytnjidfgjldkkcaa.Pure
/-- Acts upon a store: what they tell; the file; the table. -/
def actsF : List S67 → List Int → List S69 → List S62 × List Int × List S69
  | [], d, t => ([], d, t)
  | a :: l, d, t => (⟨(actF d t a).1.1, (actF d t a).1.2⟩ :: (actsF l (actF d t a).2.1 (actF d t a).2.2).1, (actsF l (actF d t a).2.1 (actF d t a).2.2).2)
theorem rd67 {l : List S67} {i : Nat} (hi : i < l.length) : rd_T67 l (i : Int) = l[i] := by
  unfold rd_T67
  rw [Int.toNat_natCast, List.getD_eq_getElem?_getD, List.getElem?_eq_getElem hi]; rfl
theorem acts_next {l : List S67} {d : List Int} {t : List S69} {i : Nat} {out : List S62} {R : List S62 × List Int × List S69} (h : (out ++ (actsF (l.drop i) d t).1, (actsF (l.drop i) d t).2) = R) (hi : i < l.length) :
    ((out ++ [⟨(actF d t (rd_T67 l i)).1.1, (actF d t (rd_T67 l i)).1.2⟩]) ++ (actsF (l.drop (i + 1)) (actF d t (rd_T67 l i)).2.1 (actF d t (rd_T67 l i)).2.2).1, (actsF (l.drop (i + 1)) (actF d t (rd_T67 l i)).2.1 (actF d t (rd_T67 l i)).2.2).2) = R := by
  rw [← h, List.drop_eq_getElem_cons hi, rd67 hi]
  simp only [actsF, List.append_assoc, List.singleton_append]
/-- What store.Play says: what was told; the file; the code. -/
def splayF (l : List S67) : List S62 × List Int × Int := if 100 < l.length then ([], [], 1) else ((actsF l [] []).1, (actsF l [] []).2.1, 0)
def Splay (w : World) (R : List S62 × List Int × Int) (e : Ending) (w' : World) : Prop :=
  ∃ vc vd, e = .returned (.tuple #[vc, vd, .int .i64 R.2.2]) ∧ k62.R 62 w' w.heap.size (fun _ => True) vc R.1 ∧ (Kd.int .u8).R 5 w' w.heap.size (fun _ => True) vd R.2.1 ∧ Below w.heap.size w w'
/-- How an act ends, seen from the loop. -/
def DoIn (base g : Nat) (wr : World) (c : Int) (rs : List S69) (d : List Int) (t : List S69) (e : Ending) (w' : World) : Prop := ∃ rv, e = .returned (.agg #[.int .i64 c, rv]) ∧ k69.R 69 w' base (fun q => wr.heap.size ≤ q) rv rs ∧ StoreAt w' base g d.length d t ∧ ModT [95, 5] base wr w'
theorem E62 : ∀ q, q ∈ 62 :: k62.E → q = 62 ∨ q = 69 := by
  intro q hq
  simpa [k62, k69, Kd.iso, Kd.pair, Kd.slice, Kd.int, Kd.string, Kd.scalar] using hq
set_option maxRecDepth 100000 in
set_option maxHeartbeats 8000000 in
theorem store_Play (A : Option Addr) (c : Nat) (l : List S67) (w : World) (hr : Kd.C k67 w A l.length l) (hc : l.length ≤ c) (hk : ∀ a ∈ l, a.f2.size ≤ 140737488351232) :
    Calls Try.prog 38 #[.slice A l.length c] w (Splay w (splayF l)) := by
  unfold splayF
  by_cases hl : 100 < l.length
  · rw [if_pos hl]
    clear hr hk
    go_enter Try.func38, Try.ntmps38
    go_wp2
    go_ret3
    exact ⟨_, _, rfl, Kd.R_nil _ _ _ _ _, Kd.R_nil _ _ _ _ _, Below.refl _ _⟩
  rw [if_neg hl]
  have HR := Aside0.mk hr
  have HC := Aside0.mk hc
  have HK := Aside0.mk hk
  clear hr hc hk
  have hs0 : Aside0 (StoreAt (w.alloc (.cells #[.slice none 0 0, .int .i64 0, .slice none 0 0] 95)) w.heap.size w.heap.size 0 [] []) := ⟨none, 0, none, 0, ⟨by rw [heap_alloc_new]; rfl, Nat.le_refl _, Kd.R_nil _ _ _ _ _, Nat.le_refl _⟩, Kd.R_nil _ _ _ _ _⟩
  have hB0 : Aside0 (Below w.heap.size w (w.alloc (.cells #[.slice none 0 0, .int .i64 0, .slice none 0 0] 95))) := ⟨below_alloc (Below.refl _ _) _⟩
  go_enter Try.func38, Try.ntmps38
  go_wp2
  go_loopw [2, 15] (fun v2 v15 wr => ∃ (i : Nat) (out : List S62) (d : List Int) (t : List S69), v15 = .int .i64 i ∧ Aside0 (i ≤ l.length) ∧ Aside0 ((out ++ (actsF (l.drop i) d t).1, (actsF (l.drop i) d t).2) = actsF l [] []) ∧ Aside0 (out.length ≤ i) ∧ Aside0 (SInv d t) ∧ Aside0 (StoreAt wr w.heap.size w.heap.size d.length d t) ∧ Aside0 (k62.R 62 wr w.heap.size (fun _ => True) v2 out) ∧ Aside0 (Below w.heap.size w wr)) (fun _ v15 _ => l.length - (intOf v15).toNat)
  case atStart => exact ⟨0, [], [], [], rfl, ⟨Nat.zero_le _⟩, ⟨rfl⟩, ⟨Nat.le_refl _⟩, ⟨SInv.nil⟩, hs0, ⟨Kd.R_nil _ _ _ _ _⟩, hB0⟩
  case round =>
    obtain ⟨i, out, d, t, rfl, hi, hs, hol, HI, HS, HO, HB⟩ := hrel
    have hil := hi.out
    by_cases hlt : i < l.length
    · have hst := Aside0.mk (acts_next hs.out hlt)
      obtain ⟨ad, A1, c1, rfl, y0, y1, y2, y3, l1, g1⟩ := at_T67 HR.out (i : Int) (by omega) (by omega)
      have x0 := (HB.out.cell (World.block_lt_of_cell? w _ y0)).trans y0
      have x1 := (HB.out.cell (World.block_lt_of_cell? w _ y1)).trans y1
      have x2 := (HB.out.cell (World.block_lt_of_cell? w _ y2)).trans y2
      have x3 := (HB.out.cell (World.block_lt_of_cell? w _ y3)).trans y3
      clear y0 y1 y2 y3
      rw [Int.toNat_natCast] at x0 x1 x2 x3
      obtain ⟨m, hm⟩ : ∃ m, m = rd_T67 l (i : Int) := ⟨_, rfl⟩
      rw [← hm] at hst x0 x1 x2 x3 l1 g1
      have hmb : m.f2.size ≤ 140737488351232 := HK.out _ (by rw [hm, rd67 hlt]; exact List.getElem_mem _)
      have hinv : Aside0 (SInv (actF d t m).2.1 (actF d t m).2.2) := ⟨actF_inv HI.out m⟩
      have hcall : Aside0 (∀ W, Below wr.heap.size wr W → Calls Try.prog 61 #[.pointer (some ⟨w.heap.size, 0, none⟩), .agg #[.int .i64 m.f0, .slice A1 m.f1.length c1, .string m.f2, .int .i64 m.f3]] W (DoIn w.heap.size w.heap.size wr (actF d t m).1.1 (actF d t m).1.2 (actF d t m).2.1 (actF d t m).2.2)) := ⟨fun W hW => (do_walk w.heap.size w.heap.size d t m A1 c1 W (HS.out.below hW) HI.out (fun W' hm' => Kd.C_below g1 (hm'.below (below_step HB.out hW) (Nat.le_trans HB.out.size hW.size))) l1 hmb).mono fun e w' ⟨rv, h1, h2, h3, h4⟩ => ⟨rv, h1, Kd.R_mono (Kd.R_lower (Kd.R_bound h2) (Nat.le_trans HB.out.size hW.size)) (fun q hq => Nat.le_trans hW.size hq.2.1), h3, (ModT.of_below hW).trans h4⟩⟩
      obtain ⟨k, cs, key, n⟩ := m
      obtain ⟨r, hr⟩ : ∃ r, Aside0 (r = actF d t ⟨k, cs, key, n⟩) := ⟨_, ⟨rfl⟩⟩
      rw [← hr.out] at hcall hst hinv
      obtain ⟨⟨code, rs⟩, d', t'⟩ := r
      clear hm l1 g1 hr hmb
      simp only at hcall hst hinv x0 x1 x2 x3
      go_wp2_with (first | (go_at_call 61; refine (hcall.out _ (by repeat (first | exact Below.refl _ _ | refine below_set ?_ (Nat.le_refl _) | apply below_alloc))).mono ?_; rintro e w3 ⟨rv, rfl, ho, hsn, hm⟩; obtain ⟨Ar, cr, rfl⟩ := Kd.R_slice ho; have HR3 := Aside0.mk ho; have HS3 := Aside0.mk hsn; have HO3 := Aside0.mk (hm.R HO.out (by intro q hq; rcases E62 q hq with rfl | rfl <;> simp)); have HB3 := Aside0.mk (hm.below HB.out HB.out.size); have hap : Aside0 (∀ q, wr.heap.size ≤ q → True ∧ some q ≠ u2.ownBlock) := ⟨fun q hq => ⟨trivial, fun he => (by have := Kd.R_lt HO.out q he.symm; omega)⟩⟩; clear ho hsn hm) | ((with_reducible refine gate_builtin (b := .append) (xs := #[.tmp 19, .tmp 23]) rfl ?_); at_builtin; refine Kd.R_append k62 (w0 := w) w.heap.size rfl (.tmp 19) (.tmp 23) 58 62 _ 32 rfl Try.underlying58 info62 rfl (by decide) (by omega) u2 out ⟨code, rs⟩ [.int .i64 code, .slice Ar rs.length cr] (fun _ => True) (fun q => wr.heap.size ≤ q) rfl rfl (k62_mkM _ _ _ ⟨code, rs⟩ HR3.out) hap.out (fun _ _ => trivial) HO3.out HB3.out (below_size HB3.out) (by have := hol.out; omega) ?_; intro v4 w4 ho hb hg hat; obtain ⟨A4, c4, rfl⟩ := Kd.R_slice ho; rw [List.length_append, List.length_singleton] at ho hat; have HO4 := Aside0.mk ho; have HB4 := Aside0.mk hb; have HS4 := Aside0.mk (HS3.out.mod (ModT.grown (T := [62]) hg HO3.out (by simp) (Nat.le_refl _)) (by simp) (by simp) (by simp)); clear ho hb hg hat))
      go_roundw
      case rel => exact ⟨i + 1, out ++ [⟨code, rs⟩], d', t', by simp, ⟨hlt⟩, hst, ⟨by have := hol.out; rw [List.length_append, List.length_singleton]; omega⟩, hinv, HS4, HO4, HB4⟩
      case measure => simp [intOf]; omega
    · have he : Aside0 ((out, d, t) = actsF l [] []) := ⟨by have := hs.out; rw [List.drop_of_length_le (by omega)] at this; simpa [actsF] using this⟩
      obtain ⟨A2, c2, B2, b2, hD, -⟩ := HS.out
      obtain ⟨z0, -, -, -⟩ := hD.cells
      have HD := Aside0.mk (Kd.R_reads' hD.2.2.1)
      have hdl : d.length ≤ 1200 := by obtain ⟨_, _, _, _, h⟩ := HI.out; exact h
      obtain ⟨Ac, cc, rfl⟩ := Kd.R_slice HO.out
      clear hD
      go_wp2_with (go_at_call 58; refine (slices_Clone_byte_byte.calls A2 c2 d d _ HD.out.2.2 HD.out.2.1 (by unfold slices_Clone_byte_byte.f; rw [if_pos (by omega)])).mono ?_; rintro e w2 ⟨v2, rfl, ho2, hb2⟩; obtain ⟨A3, c3, rfl⟩ := Kd.R_slice ho2; have HO2 := Aside0.mk (Kd.R_lower ho2 HB.out.size); have HO1 := Aside0.mk (Kd.R_below HO.out hb2); have HB2 := Aside0.mk (below_step HB.out hb2); clear ho2 hb2)
      go_ret3
      rw [← he.out]
      exact ⟨_, _, rfl, HO1.out, HO2.out, HB2.out⟩
end Go.Proofs.Ytnjidfgjldkkcaa.Q
-- Written for this seat by a program of its session (xp.py over the kit's printer).
namespace Go.Proofs.Ytnjidfgjldkkcaa.Q
open Go.RowKit Go.Proofs.YtnjidfgjldkkcaaW.PrintWords Go.Proofs.YtnjidfgjldkkcaaW.PrintLast Go.Proofs.YtnjidfgjldkkcaaW.PrintMore
attribute [local go_sem] max2_int min2_int max_two min_two max_three min_three max_four min_four xq_geq xq_leq xq_gtr   -- for this text's walks alone
set_option linter.unusedVariables false
set_option linter.unusedSimpArgs false

-- NOT PRINTED: function 72 (slices_IndexFunc_byte_byte)

-- NOT PRINTED: function 53 (slices_ContainsFunc_byte_byte)

-- NOT PRINTED: function 86 (wal_sums)

-- NOT PRINTED: function 73 (wal_frame)

-- NOT PRINTED: function 54 (wal_Of)

/-! ### bagnalllaw_WalPacks: function 8 -/
def bagnalllaw_WalPacks.f (k : Nat) (l0 : List (List Int)) : Option (Bool) := (wal_Pack.f l0).bind fun bt115 => ((bagnallref_WalPack.f k l0).bind fun bt119 => ((bagnalllaw_sameBytes.f k bt115.1 bt119.1).bind fun t123 => (if t123 = true then (some (bt115.2 == bt119.2)) else (some false))))
theorem bagnalllaw_WalPacks.mono : ∀ a0 k, LeO (bagnalllaw_WalPacks.f k a0) (bagnalllaw_WalPacks.f (k + 1) a0) := by
  intro a0 k
  unfold bagnalllaw_WalPacks.f
  repeat' first
      | (with_reducible exact bagnalllaw_sameBytes.mono _ _ _)
      | (with_reducible exact bagnallref_WalPack.mono _ _)
      | (with_reducible exact LeO.refl _)
      | (with_reducible exact LeO.none _)
      | (with_reducible refine LeO.ite ?_ ?_)
      | (with_reducible refine LeO.bind ?_ (fun _ => ?_))
      | exact bagnalllaw_sameBytes.mono _ _ _
      | exact bagnallref_WalPack.mono _ _
      | exact LeO.none _
      | refine LeO.ite ?_ ?_
      | refine LeO.bind ?_ (fun _ => ?_)
set_option maxHeartbeats 8000000 in
set_option maxRecDepth 100000 in
theorem bagnalllaw_WalPacks.calls (k : Nat) (A0 : Option Addr) (c0 : Nat) (l0 : List (List Int)) (r : Bool) (w : World) (hr0 : Kd.C (Kd.slice 5 (Kd.int .u8)) w A0 l0.length l0) (hc0 : l0.length ≤ c0) (h : bagnalllaw_WalPacks.f k l0 = some r) :
    Calls Try.prog 8 #[.slice A0 l0.length c0] w fun e w' => e = .returned (.bool r) ∧ Below w.heap.size w w' := by
  have HR0 := Aside0.mk hr0
  have HC0 := Aside0.mk hc0
  clear hr0 hc0
  have HB := Aside0.mk (Below.refl w.heap.size w)
  have H : ((wal_Pack.f l0).bind fun bt115 => ((bagnallref_WalPack.f k l0).bind fun bt119 => ((bagnalllaw_sameBytes.f k bt115.1 bt119.1).bind fun t123 => (if t123 = true then (some (bt115.2 == bt119.2)) else (some false))))) = some r := h
  clear h
  replace H := Option.bind_eq_some_iff.mp H
  obtain ⟨⟨t115, t116⟩, A20, H⟩ := H
  replace H : ((bagnallref_WalPack.f k l0).bind fun bt119 => ((bagnalllaw_sameBytes.f k t115 bt119.1).bind fun t123 => (if t123 = true then (some (t116 == bt119.2)) else (some false)))) = some r := H
  have A2 := Aside0.mk A20
  clear A20
  replace H := Option.bind_eq_some_iff.mp H
  obtain ⟨⟨t119, t120⟩, A30, H⟩ := H
  replace H : ((bagnalllaw_sameBytes.f k t115 t119).bind fun t123 => (if t123 = true then (some (t116 == t120)) else (some false))) = some r := H
  have A3 := Aside0.mk A30
  clear A30
  replace H := Option.bind_eq_some_iff.mp H
  obtain ⟨t123, A40, H⟩ := H
  replace H : (if t123 = true then (some (t116 == t120)) else (some false)) = some r := H
  have A4 := Aside0.mk A40
  clear A40
  by_cases c5 : t123 = true
  · subst c5
    have H1 : (some (t116 == t120)) = some r := by rw [if_pos rfl] at H; exact H
    clear H
    have H := H1
    clear H1
    obtain rfl := Option.some.inj H
    go_enter Try.func8, Try.ntmps8
    go_wp2_with (first | ((with_reducible refine gate_callee (f := 27) rfl ?_); refine goesL_ (some 9) rfl rfl Try.func27 (by kernel_rfl) rfl #[.slice A0 l0.length c0] rfl (by (try simp only [List.map_toArray, List.map_cons, List.map_nil]); first | done | rfl | (simp only [List.length_drop, List.length_take]; rfl)) ?_; (with_reducible refine (wal_Pack.calls _ _ l0 t115 t116 _ ?side1 ?side2 A2.out).mono ?_); (case side1 => repeat (first | exact HR0.out | (with_reducible refine Kd.C_alloc ?_ _) | (with_reducible refine Kd.C_drewN ?_ _) | (with_reducible refine Kd.C_drew ?_))); (case side2 => exact HC0.out); rintro e w6 ⟨v117, rfl, ho0, hb⟩; refine ⟨_, rfl, ?_⟩; have n0_ := Aside0.mk (Kd.R_lower ho0 (below_size (by repeat (first | (with_reducible first | exact HB.out | apply below_alloc | apply pw_below_drewN | apply below_drew1) | exact HB.out)))); have n1_ := Aside0.mk (below_step (by repeat (first | (with_reducible first | exact HB.out | apply below_alloc | apply pw_below_drewN | apply below_drew1) | exact HB.out)) hb); clear HB; have HO118 := n0_; have HB := n1_; clear n0_ n1_; (try clear hb); (try clear hb2); (try clear hk); (try clear hi); (try clear ho0)) | ((with_reducible refine gate_callee (f := 28) rfl ?_); refine goesL_ (some 14) rfl rfl Try.func28 (by kernel_rfl) rfl #[.slice A0 l0.length c0] rfl (by (try simp only [List.map_toArray, List.map_cons, List.map_nil]); first | done | rfl | (simp only [List.length_drop, List.length_take]; rfl)) ?_; (with_reducible refine (bagnallref_WalPack.calls k _ _ l0 t119 t120 _ ?side1 ?side2 A3.out).mono ?_); (case side1 => repeat (first | exact (Kd.C_below HR0.out HB.out) | (with_reducible refine Kd.C_alloc ?_ _) | (with_reducible refine Kd.C_drewN ?_ _) | (with_reducible refine Kd.C_drew ?_))); (case side2 => exact HC0.out); rintro e w7 ⟨v121, rfl, ho0, hb⟩; refine ⟨_, rfl, ?_⟩; have n0_ := Aside0.mk (Kd.R_elder' (by (with_reducible repeat (first | apply Kd.R_alloc | apply Kd.R_drewN | apply Kd.R_drew)); exact HO118.out) (Kd.R_base ho0) hb); have n1_ := Aside0.mk (Kd.R_lower (Kd.R_new' ho0 (Kd.R_lt (by (with_reducible repeat (first | apply Kd.R_alloc | apply Kd.R_drewN | apply Kd.R_drew)); exact HO118.out))) (below_size (by repeat (first | (with_reducible first | exact HB.out | apply below_alloc | apply pw_below_drewN | apply below_drew1) | exact HB.out)))); have n2_ := Aside0.mk (below_step (by repeat (first | (with_reducible first | exact HB.out | apply below_alloc | apply pw_below_drewN | apply below_drew1) | exact HB.out)) hb); clear HO118; clear HB; have HO118 := n0_; have HO122 := n1_; have HB := n2_; clear n0_ n1_ n2_; (try clear hb); (try clear hb2); (try clear hk); (try clear hi); (try clear ho0); obtain ⟨Ao8, co8, eo8⟩ := Kd.R_slice HO118.out; subst eo8; obtain ⟨Ao9, co9, eo9⟩ := Kd.R_slice HO122.out; subst eo9) | ((with_reducible refine gate_callee (f := 29) rfl ?_); refine goesL_ (some 19) rfl rfl Try.func29 (by kernel_rfl) rfl #[.slice Ao8 t115.length co8, .slice Ao9 t119.length co9] rfl (by (try simp only [List.map_toArray, List.map_cons, List.map_nil]); first | done | rfl | (simp only [List.length_drop, List.length_take]; rfl)) ?_; (with_reducible refine (bagnalllaw_sameBytes.calls k _ _ t115 _ _ t119 true _ ?side1 ?side2 ?side3 ?side4 A4.out).mono ?_); (case side1 => repeat (first | exact (Kd.R_reads' HO118.out).2.2 | (with_reducible refine Kd.C_alloc ?_ _) | (with_reducible refine Kd.C_drewN ?_ _) | (with_reducible refine Kd.C_drew ?_))); (case side2 => exact (Kd.R_reads' HO118.out).2.1); (case side3 => repeat (first | exact (Kd.R_reads' HO122.out).2.2 | (with_reducible refine Kd.C_alloc ?_ _) | (with_reducible refine Kd.C_drewN ?_ _) | (with_reducible refine Kd.C_drew ?_))); (case side4 => exact (Kd.R_reads' HO122.out).2.1); rintro e w' ⟨rfl, ⟨nd, rfl⟩⟩; refine ⟨_, rfl, ?_⟩))
    go_ret
    exact ⟨by first | rfl | (simp [errW_none, errW_some] <;> rfl) | (simp [*, errW_none, errW_some] <;> rfl), by repeat (first | (with_reducible first | exact HB.out | apply below_alloc | apply pw_below_drewN | apply below_drew1) | exact HB.out)⟩
  · replace c5 := Bool.eq_false_iff.mpr c5
    subst c5
    have H1 : (some false) = some r := by rw [if_neg (show ¬ (false = true) by decide)] at H; exact H
    clear H
    have H := H1
    clear H1
    obtain rfl := Option.some.inj H
    go_enter Try.func8, Try.ntmps8
    go_wp2_with (first | ((with_reducible refine gate_callee (f := 27) rfl ?_); refine goesL_ (some 9) rfl rfl Try.func27 (by kernel_rfl) rfl #[.slice A0 l0.length c0] rfl (by (try simp only [List.map_toArray, List.map_cons, List.map_nil]); first | done | rfl | (simp only [List.length_drop, List.length_take]; rfl)) ?_; (with_reducible refine (wal_Pack.calls _ _ l0 t115 t116 _ ?side1 ?side2 A2.out).mono ?_); (case side1 => repeat (first | exact HR0.out | (with_reducible refine Kd.C_alloc ?_ _) | (with_reducible refine Kd.C_drewN ?_ _) | (with_reducible refine Kd.C_drew ?_))); (case side2 => exact HC0.out); rintro e w10 ⟨v117, rfl, ho0, hb⟩; refine ⟨_, rfl, ?_⟩; have n0_ := Aside0.mk (Kd.R_lower ho0 (below_size (by repeat (first | (with_reducible first | exact HB.out | apply below_alloc | apply pw_below_drewN | apply below_drew1) | exact HB.out)))); have n1_ := Aside0.mk (below_step (by repeat (first | (with_reducible first | exact HB.out | apply below_alloc | apply pw_below_drewN | apply below_drew1) | exact HB.out)) hb); clear HB; have HO118 := n0_; have HB := n1_; clear n0_ n1_; (try clear hb); (try clear hb2); (try clear hk); (try clear hi); (try clear ho0)) | ((with_reducible refine gate_callee (f := 28) rfl ?_); refine goesL_ (some 14) rfl rfl Try.func28 (by kernel_rfl) rfl #[.slice A0 l0.length c0] rfl (by (try simp only [List.map_toArray, List.map_cons, List.map_nil]); first | done | rfl | (simp only [List.length_drop, List.length_take]; rfl)) ?_; (with_reducible refine (bagnallref_WalPack.calls k _ _ l0 t119 t120 _ ?side1 ?side2 A3.out).mono ?_); (case side1 => repeat (first | exact (Kd.C_below HR0.out HB.out) | (with_reducible refine Kd.C_alloc ?_ _) | (with_reducible refine Kd.C_drewN ?_ _) | (with_reducible refine Kd.C_drew ?_))); (case side2 => exact HC0.out); rintro e w11 ⟨v121, rfl, ho0, hb⟩; refine ⟨_, rfl, ?_⟩; have n0_ := Aside0.mk (Kd.R_elder' (by (with_reducible repeat (first | apply Kd.R_alloc | apply Kd.R_drewN | apply Kd.R_drew)); exact HO118.out) (Kd.R_base ho0) hb); have n1_ := Aside0.mk (Kd.R_lower (Kd.R_new' ho0 (Kd.R_lt (by (with_reducible repeat (first | apply Kd.R_alloc | apply Kd.R_drewN | apply Kd.R_drew)); exact HO118.out))) (below_size (by repeat (first | (with_reducible first | exact HB.out | apply below_alloc | apply pw_below_drewN | apply below_drew1) | exact HB.out)))); have n2_ := Aside0.mk (below_step (by repeat (first | (with_reducible first | exact HB.out | apply below_alloc | apply pw_below_drewN | apply below_drew1) | exact HB.out)) hb); clear HO118; clear HB; have HO118 := n0_; have HO122 := n1_; have HB := n2_; clear n0_ n1_ n2_; (try clear hb); (try clear hb2); (try clear hk); (try clear hi); (try clear ho0); obtain ⟨Ao12, co12, eo12⟩ := Kd.R_slice HO118.out; subst eo12; obtain ⟨Ao13, co13, eo13⟩ := Kd.R_slice HO122.out; subst eo13) | ((with_reducible refine gate_callee (f := 29) rfl ?_); refine goesL_ (some 19) rfl rfl Try.func29 (by kernel_rfl) rfl #[.slice Ao12 t115.length co12, .slice Ao13 t119.length co13] rfl (by (try simp only [List.map_toArray, List.map_cons, List.map_nil]); first | done | rfl | (simp only [List.length_drop, List.length_take]; rfl)) ?_; (with_reducible refine (bagnalllaw_sameBytes.calls k _ _ t115 _ _ t119 false _ ?side1 ?side2 ?side3 ?side4 A4.out).mono ?_); (case side1 => repeat (first | exact (Kd.R_reads' HO118.out).2.2 | (with_reducible refine Kd.C_alloc ?_ _) | (with_reducible refine Kd.C_drewN ?_ _) | (with_reducible refine Kd.C_drew ?_))); (case side2 => exact (Kd.R_reads' HO118.out).2.1); (case side3 => repeat (first | exact (Kd.R_reads' HO122.out).2.2 | (with_reducible refine Kd.C_alloc ?_ _) | (with_reducible refine Kd.C_drewN ?_ _) | (with_reducible refine Kd.C_drew ?_))); (case side4 => exact (Kd.R_reads' HO122.out).2.1); rintro e w' ⟨rfl, ⟨nd, rfl⟩⟩; refine ⟨_, rfl, ?_⟩))
    go_ret
    exact ⟨by first | rfl | (simp [errW_none, errW_some] <;> rfl) | (simp [*, errW_none, errW_some] <;> rfl), by repeat (first | (with_reducible first | exact HB.out | apply below_alloc | apply pw_below_drewN | apply below_drew1) | exact HB.out)⟩

end Go.Proofs.Ytnjidfgjldkkcaa.Q
