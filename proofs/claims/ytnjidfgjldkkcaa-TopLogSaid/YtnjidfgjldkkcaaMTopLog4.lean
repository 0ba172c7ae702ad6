/- Texts of this claim, laid together: QBe1, PureRowsBegins, QFi1, PureRowsFinds, PlKv, QSd, QSp, QDp, PlTop, QTo1, PlTop2, PureTopDisk, PlLogT, PureTopLog. -/
import Derived.Test.YtnjidfgjldkkcaaMTopLog3
-- Written for this seat by a program of its session (xp.py over the kit's printer).
namespace Go.Proofs.Ytnjidfgjldkkcaa.Q
open Go.RowKit Go.Proofs.YtnjidfgjldkkcaaW.PrintWords Go.Proofs.YtnjidfgjldkkcaaW.PrintLast Go.Proofs.YtnjidfgjldkkcaaW.PrintMore
attribute [local go_sem] max2_int min2_int max_two min_two max_three min_three max_four min_four xq_geq xq_leq xq_gtr   -- for this text's walks alone
set_option linter.unusedVariables false
set_option linter.unusedSimpArgs false

-- NOT PRINTED: function 80 (api_Row_string)

/-! ### rows_Beginning: function 46 -/
def rows_Beginning.f (k : Nat) (l0 : List (S69)) (a1 : ByteArray) : Option ((List (S69))) := (rows_place.f l0 a1).bind fun bt101 => ((rows_Next.f k a1).bind fun t103 => (if t103.toList = ([] : List UInt8) then (if 0 ≤ bt101.1 then (if bt101.1 ≤ (l0.length : Int) then (if (l0.length : Int) ≤ (l0.length : Int) then ((api_Row_67.f ((l0.take ((l0.length : Int) : Int).toNat).drop (bt101.1 : Int).toNat)).bind fun t108 => (some t108)) else (none)) else (none)) else (none)) else ((rows_place.f l0 t103).bind fun bt111 => (if 0 ≤ bt101.1 then (if bt101.1 ≤ bt111.1 then (if bt111.1 ≤ (l0.length : Int) then ((api_Row_67.f ((l0.take (bt111.1 : Int).toNat).drop (bt101.1 : Int).toNat)).bind fun t117 => (some t117)) else (none)) else (none)) else (none)))))
theorem rows_Beginning.mono : ∀ a0 a1 k, LeO (rows_Beginning.f k a0 a1) (rows_Beginning.f (k + 1) a0 a1) := by
  intro a0 a1 k
  unfold rows_Beginning.f
  repeat' first
      | (with_reducible exact rows_Next.mono _ _)
      | (with_reducible exact LeO.refl _)
      | (with_reducible exact LeO.none _)
      | (with_reducible refine LeO.ite ?_ ?_)
      | (with_reducible refine LeO.bind ?_ (fun _ => ?_))
      | exact rows_Next.mono _ _
      | exact LeO.none _
      | refine LeO.ite ?_ ?_
      | refine LeO.bind ?_ (fun _ => ?_)
set_option maxHeartbeats 8000000 in
set_option maxRecDepth 100000 in
theorem rows_Beginning.calls (k : Nat) (A0 : Option Addr) (c0 : Nat) (l0 : List (S69)) (a1 : ByteArray) (r : List (S69)) (w : World) (hr0 : Kd.C k69 w A0 l0.length l0) (hc0 : l0.length ≤ c0) (h : rows_Beginning.f k l0 a1 = some r) :
    Calls Try.prog 46 #[.slice A0 l0.length c0, .string a1] w fun e w' => ∃ v0_ : Value, e = .returned (v0_) ∧ Kd.R k69 69 w' w.heap.size (fun _ => True) v0_ r ∧ Below w.heap.size w w' := by
  have HR0 := Aside0.mk hr0
  have HC0 := Aside0.mk hc0
  clear hr0 hc0
  have HB := Aside0.mk (Below.refl w.heap.size w)
  have H : ((rows_place.f l0 a1).bind fun bt101 => ((rows_Next.f k a1).bind fun t103 => (if t103.toList = ([] : List UInt8) then (if 0 ≤ bt101.1 then (if bt101.1 ≤ (l0.length : Int) then (if (l0.length : Int) ≤ (l0.length : Int) then ((api_Row_67.f ((l0.take ((l0.length : Int) : Int).toNat).drop (bt101.1 : Int).toNat)).bind fun t108 => (some t108)) else (none)) else (none)) else (none)) else ((rows_place.f l0 t103).bind fun bt111 => (if 0 ≤ bt101.1 then (if bt101.1 ≤ bt111.1 then (if bt111.1 ≤ (l0.length : Int) then ((api_Row_67.f ((l0.take (bt111.1 : Int).toNat).drop (bt101.1 : Int).toNat)).bind fun t117 => (some t117)) else (none)) else (none)) else (none)))))) = some r := h
  clear h
  replace H := Option.bind_eq_some_iff.mp H
  obtain ⟨⟨t101, t102⟩, A30, H⟩ := H
  replace H : ((rows_Next.f k a1).bind fun t103 => (if t103.toList = ([] : List UInt8) then (if 0 ≤ t101 then (if t101 ≤ (l0.length : Int) then (if (l0.length : Int) ≤ (l0.length : Int) then ((api_Row_67.f ((l0.take ((l0.length : Int) : Int).toNat).drop (t101 : Int).toNat)).bind fun t108 => (some t108)) else (none)) else (none)) else (none)) else ((rows_place.f l0 t103).bind fun bt111 => (if 0 ≤ t101 then (if t101 ≤ bt111.1 then (if bt111.1 ≤ (l0.length : Int) then ((api_Row_67.f ((l0.take (bt111.1 : Int).toNat).drop (t101 : Int).toNat)).bind fun t117 => (some t117)) else (none)) else (none)) else (none))))) = some r := H
  have A3 := Aside0.mk A30
  clear A30
  replace H := Option.bind_eq_some_iff.mp H
  obtain ⟨t103, A40, H⟩ := H
  replace H : (if t103.toList = ([] : List UInt8) then (if 0 ≤ t101 then (if t101 ≤ (l0.length : Int) then (if (l0.length : Int) ≤ (l0.length : Int) then ((api_Row_67.f ((l0.take ((l0.length : Int) : Int).toNat).drop (t101 : Int).toNat)).bind fun t108 => (some t108)) else (none)) else (none)) else (none)) else ((rows_place.f l0 t103).bind fun bt111 => (if 0 ≤ t101 then (if t101 ≤ bt111.1 then (if bt111.1 ≤ (l0.length : Int) then ((api_Row_67.f ((l0.take (bt111.1 : Int).toNat).drop (t101 : Int).toNat)).bind fun t117 => (some t117)) else (none)) else (none)) else (none)))) = some r := H
  have A4 := Aside0.mk A40
  clear A40
  by_cases c5 : t103.toList = ([] : List UInt8)
  · rw [if_pos c5] at H
    have c5b0 : (t103.toList == ([] : List UInt8)) = true := beq_iff_eq.mpr c5
    have c5b1 : (t103.toList != ([] : List UInt8)) = false := bne_eq_false_iff_eq.mpr c5
    clear c5
    by_cases c6 : 0 ≤ t101
    · rw [if_pos c6] at H
      have c6b0 := eq_true c6
      have c6b1 : decide (0 ≤ t101) = true := decide_eq_true c6
      clear c6
      by_cases c7 : t101 ≤ (l0.length : Int)
      · rw [if_pos c7] at H
        have c7b0 := eq_true c7
        have c7b1 : decide (t101 ≤ (l0.length : Int)) = true := decide_eq_true c7
        clear c7
        by_cases c8 : (l0.length : Int) ≤ (l0.length : Int)
        · rw [if_pos c8] at H
          have c8b0 := eq_true c8
          have c8b1 : decide ((l0.length : Int) ≤ (l0.length : Int)) = true := decide_eq_true c8
          clear c8
          obtain ⟨y104, hy104⟩ : ∃ y_ : List (S69), y_ = ((l0.take ((l0.length : Int) : Int).toNat).drop (t101 : Int).toNat) := ⟨_, rfl⟩
          replace H : ((api_Row_67.f y104).bind fun t108 => (some t108)) = some r := by first | (rw [hy104]; with_reducible exact H) | (have H2_ := (Option.bind_some _ _).symm.trans H; rw [hy104]; with_reducible exact H2_) | (have H2_ := (Option.bind_some _ _).symm.trans H; with_reducible exact H2_) | with_reducible exact H | (rw [hy104]; exact H) | exact H
          have Ny104 := Aside0.mk hy104
          clear hy104
          replace H := Option.bind_eq_some_iff.mp H
          obtain ⟨t108, A90, H⟩ := H
          replace H : (some t108) = some r := H
          have A9 := Aside0.mk A90
          clear A90
          obtain rfl := Option.some.inj H
          go_enter Try.func46, Try.ntmps46
          go_wp2_with (first | ((with_reducible refine gate_callee (f := 66) rfl ?_); refine goesL_ (some 12) rfl rfl Try.func66 (by kernel_rfl) rfl #[.slice A0 l0.length c0, .string a1] rfl (by (try simp only [List.map_toArray, List.map_cons, List.map_nil]); first | done | rfl | (simp only [List.length_drop, List.length_take]; rfl)) ?_; (with_reducible refine (rows_place.calls _ _ l0 a1 t101 t102 _ ?side1 ?side2 A3.out).mono ?_); (case side1 => repeat (first | exact HR0.out | (with_reducible refine Kd.C_alloc ?_ _) | (with_reducible refine Kd.C_drewN ?_ _) | (with_reducible refine Kd.C_drew ?_))); (case side2 => exact HC0.out); rintro e w10 ⟨rfl, hb⟩; refine ⟨_, rfl, ?_⟩; have n0_ := Aside0.mk (below_step (by repeat (first | (with_reducible first | exact HB.out | apply below_alloc | apply pw_below_drewN | apply below_drew1) | exact HB.out)) hb); clear HB; have HB := n0_; clear n0_; (try clear hb); (try clear hb2); (try clear hk); (try clear hi)) | ((with_reducible refine gate_callee (f := 16) rfl ?_); refine goesL_ (some 18) rfl rfl Try.func16 (by kernel_rfl) rfl #[.string a1] rfl (by (try simp only [List.map_toArray, List.map_cons, List.map_nil]); first | done | rfl | (simp only [List.length_drop, List.length_take]; rfl)) ?_; (with_reducible refine (rows_Next.calls k a1 t103 _ A4.out).mono ?_); rintro e w11 ⟨rfl, hb⟩; refine ⟨_, rfl, ?_⟩; have n0_ := Aside0.mk (below_step (by repeat (first | (with_reducible first | exact HB.out | apply below_alloc | apply pw_below_drewN | apply below_drew1) | exact HB.out)) hb); clear HB; have HB := n0_; clear n0_; (try clear hb); (try clear hb2); (try clear hk); (try clear hi); have q12 : ((l0.length : Int) : Int) ≤ ((l0.length : Int) : Int) := of_decide_eq_true (by first | (with_reducible assumption) | assumption); obtain ⟨i012, hi012, _, hsz12, _⟩ := info_parts info69; have hroom12 : l0.length ≤ c0 := HC0.out; have hC12 : Kd.C k69 _ A0 l0.length l0 := HR0.out; have ql12 : (t101 : Int) ≤ ((l0.length : Int) : Int) := of_decide_eq_true (by first | (with_reducible assumption) | assumption); have q012 : (0 : Int) ≤ (t101 : Int) := of_decide_eq_true (by first | (with_reducible assumption) | assumption); have hcut12 := cut_mid (P := Try.prog) 24 69 .i64 .i64 Try.underlying24 hi012 2 hsz12 A0 l0.length c0 t101 (l0.length : Int) q012 ql12 q12 hroom12; have hr12 := Kd.C_mid (lo := (t101 : Int).toNat) (hi := ((l0.length : Int) : Int).toNat) (c := c0) hC12 (by omega) (by omega) hroom12; obtain ⟨A12, hA12⟩ : ∃ A1, A1 = (if c0 = (t101 : Int).toNat then A0 else (A0 : Option Addr).map (·.add ((t101 : Int).toNat * 2))) := ⟨_, rfl⟩; obtain ⟨c12, hc12⟩ : ∃ c1, c1 = c0 - (t101 : Int).toNat := ⟨_, rfl⟩; have hy12 : y104.length = ((l0.length : Int) : Int).toNat - (t101 : Int).toNat := (by rw [Ny104.out, List.length_drop, List.length_take] <;> omega); rw [show ((l0).take ((l0.length : Int) : Int).toNat).drop (t101 : Int).toNat = y104 from Ny104.out.symm] at hr12; replace hr12 : Kd.C k69 _ A12 y104.length y104 := (by rw [hA12]; exact hr12); rw [← hy12, ← hA12, ← hc12] at hcut12; have HR107 := Aside0.mk hr12; have HC107 := Aside0.mk (show y104.length ≤ c12 from by rw [hy12, hc12]; exact Nat.sub_le_sub_right (Nat.le_trans (by omega) hroom12) _); clear hr12 hC12 hroom12 hi012 hsz12 hc12; have KY12 := Aside0.mk hy12; have KA12 := Aside0.mk hA12; clear hy12 hA12; replace q12 := eq_true q12) | ((with_reducible refine gate_callee (f := 67) rfl ?_); refine goesL_ (some 31) rfl rfl Try.func67 (by kernel_rfl) rfl #[.slice A12 y104.length c12] rfl (by (try simp only [List.map_toArray, List.map_cons, List.map_nil]); first | done | rfl | (simp only [List.length_drop, List.length_take]; rfl)) ?_; (with_reducible refine (api_Row_67.calls _ _ y104 t108 _ ?side1 ?side2 A9.out).mono ?_); (case side1 => repeat (first | exact (Kd.C_below HR107.out HB.out) | (with_reducible refine Kd.C_alloc ?_ _) | (with_reducible refine Kd.C_drewN ?_ _) | (with_reducible refine Kd.C_drew ?_))); (case side2 => exact HC107.out); rintro e w13 ⟨v109, rfl, ho0, hb⟩; refine ⟨_, rfl, ?_⟩; have n0_ := Aside0.mk (Kd.R_lower ho0 (below_size (by repeat (first | (with_reducible first | exact HB.out | apply below_alloc | apply pw_below_drewN | apply below_drew1) | exact HB.out)))); have n1_ := Aside0.mk (below_step (by repeat (first | (with_reducible first | exact HB.out | apply below_alloc | apply pw_below_drewN | apply below_drew1) | exact HB.out)) hb); clear HB; have HO110 := n0_; have HB := n1_; clear n0_ n1_; (try clear hb); (try clear hb2); (try clear hk); (try clear hi); (try clear ho0)))
          go_ret
          exact ⟨_, by first | rfl | (simp [errW_none, errW_some] <;> rfl) | (simp [*, errW_none, errW_some] <;> rfl), by (with_reducible repeat (first | apply Kd.R_alloc | apply Kd.R_drewN | apply Kd.R_drew)); exact HO110.out, by repeat (first | (with_reducible first | exact HB.out | apply below_alloc | apply pw_below_drewN | apply below_drew1) | exact HB.out)⟩
        · rw [if_neg c8] at H
          exact absurd H (by simp)
      · rw [if_neg c7] at H
        exact absurd H (by simp)
    · rw [if_neg c6] at H
      exact absurd H (by simp)
  · rw [if_neg c5] at H
    have c5b0 : (t103.toList == ([] : List UInt8)) = false := beq_eq_false_iff_ne.mpr c5
    have c5b1 : (t103.toList != ([] : List UInt8)) = true := bne_iff_ne.mpr c5
    replace H := Option.bind_eq_some_iff.mp H
    obtain ⟨⟨t111, t112⟩, A140, H⟩ := H
    replace H : (if 0 ≤ t101 then (if t101 ≤ t111 then (if t111 ≤ (l0.length : Int) then ((api_Row_67.f ((l0.take (t111 : Int).toNat).drop (t101 : Int).toNat)).bind fun t117 => (some t117)) else (none)) else (none)) else (none)) = some r := H
    have A14 := Aside0.mk A140
    clear A140
    by_cases c15 : 0 ≤ t101
    · rw [if_pos c15] at H
      have c15b0 := eq_true c15
      have c15b1 : decide (0 ≤ t101) = true := decide_eq_true c15
      clear c15
      by_cases c16 : t101 ≤ t111
      · rw [if_pos c16] at H
        have c16b0 := eq_true c16
        have c16b1 : decide (t101 ≤ t111) = true := decide_eq_true c16
        clear c16
        by_cases c17 : t111 ≤ (l0.length : Int)
        · rw [if_pos c17] at H
          have c17b0 := eq_true c17
          have c17b1 : decide (t111 ≤ (l0.length : Int)) = true := decide_eq_true c17
          clear c17
          obtain ⟨y113, hy113⟩ : ∃ y_ : List (S69), y_ = ((l0.take (t111 : Int).toNat).drop (t101 : Int).toNat) := ⟨_, rfl⟩
          replace H : ((api_Row_67.f y113).bind fun t117 => (some t117)) = some r := by first | (rw [hy113]; with_reducible exact H) | (have H2_ := (Option.bind_some _ _).symm.trans H; rw [hy113]; with_reducible exact H2_) | (have H2_ := (Option.bind_some _ _).symm.trans H; with_reducible exact H2_) | with_reducible exact H | (rw [hy113]; exact H) | exact H
          have Ny113 := Aside0.mk hy113
          clear hy113
          replace H := Option.bind_eq_some_iff.mp H
          obtain ⟨t117, A180, H⟩ := H
          replace H : (some t117) = some r := H
          have A18 := Aside0.mk A180
          clear A180
          obtain rfl := Option.some.inj H
          go_enter Try.func46, Try.ntmps46
          go_wp2_with (first | ((with_reducible refine gate_callee (f := 66) rfl ?_); refine goesL_ (some 12) rfl rfl Try.func66 (by kernel_rfl) rfl #[.slice A0 l0.length c0, .string a1] rfl (by (try simp only [List.map_toArray, List.map_cons, List.map_nil]); first | done | rfl | (simp only [List.length_drop, List.length_take]; rfl)) ?_; (with_reducible refine (rows_place.calls _ _ l0 a1 t101 t102 _ ?side1 ?side2 A3.out).mono ?_); (case side1 => repeat (first | exact HR0.out | (with_reducible refine Kd.C_alloc ?_ _) | (with_reducible refine Kd.C_drewN ?_ _) | (with_reducible refine Kd.C_drew ?_))); (case side2 => exact HC0.out); rintro e w19 ⟨rfl, hb⟩; refine ⟨_, rfl, ?_⟩; have n0_ := Aside0.mk (below_step (by repeat (first | (with_reducible first | exact HB.out | apply below_alloc | apply pw_below_drewN | apply below_drew1) | exact HB.out)) hb); clear HB; have HB := n0_; clear n0_; (try clear hb); (try clear hb2); (try clear hk); (try clear hi)) | ((with_reducible refine gate_callee (f := 16) rfl ?_); refine goesL_ (some 18) rfl rfl Try.func16 (by kernel_rfl) rfl #[.string a1] rfl (by (try simp only [List.map_toArray, List.map_cons, List.map_nil]); first | done | rfl | (simp only [List.length_drop, List.length_take]; rfl)) ?_; (with_reducible refine (rows_Next.calls k a1 t103 _ A4.out).mono ?_); rintro e w20 ⟨rfl, hb⟩; refine ⟨_, rfl, ?_⟩; have n0_ := Aside0.mk (below_step (by repeat (first | (with_reducible first | exact HB.out | apply below_alloc | apply pw_below_drewN | apply below_drew1) | exact HB.out)) hb); clear HB; have HB := n0_; clear n0_; (try clear hb); (try clear hb2); (try clear hk); (try clear hi)) | ((with_reducible refine gate_callee (f := 66) rfl ?_); refine goesL_ (some 24) rfl rfl Try.func66 (by kernel_rfl) rfl #[.slice A0 l0.length c0, .string t103] rfl (by (try simp only [List.map_toArray, List.map_cons, List.map_nil]); first | done | rfl | (simp only [List.length_drop, List.length_take]; rfl)) ?_; (with_reducible refine (rows_place.calls _ _ l0 t103 t111 t112 _ ?side1 ?side2 A14.out).mono ?_); (case side1 => repeat (first | exact (Kd.C_below HR0.out HB.out) | (with_reducible refine Kd.C_alloc ?_ _) | (with_reducible refine Kd.C_drewN ?_ _) | (with_reducible refine Kd.C_drew ?_))); (case side2 => exact HC0.out); rintro e w21 ⟨rfl, hb⟩; refine ⟨_, rfl, ?_⟩; have n0_ := Aside0.mk (below_step (by repeat (first | (with_reducible first | exact HB.out | apply below_alloc | apply pw_below_drewN | apply below_drew1) | exact HB.out)) hb); clear HB; have HB := n0_; clear n0_; (try clear hb); (try clear hb2); (try clear hk); (try clear hi); have q22 : (t111 : Int) ≤ ((l0.length : Int) : Int) := of_decide_eq_true (by first | (with_reducible assumption) | assumption); obtain ⟨i022, hi022, _, hsz22, _⟩ := info_parts info69; have hroom22 : l0.length ≤ c0 := HC0.out; have hC22 : Kd.C k69 _ A0 l0.length l0 := HR0.out; have ql22 : (t101 : Int) ≤ (t111 : Int) := of_decide_eq_true (by first | (with_reducible assumption) | assumption); have q022 : (0 : Int) ≤ (t101 : Int) := of_decide_eq_true (by first | (with_reducible assumption) | assumption); have hcut22 := cut_mid (P := Try.prog) 24 69 .i64 .i64 Try.underlying24 hi022 2 hsz22 A0 l0.length c0 t101 t111 q022 ql22 q22 hroom22; have hr22 := Kd.C_mid (lo := (t101 : Int).toNat) (hi := (t111 : Int).toNat) (c := c0) hC22 (by omega) (by omega) hroom22; obtain ⟨A22, hA22⟩ : ∃ A1, A1 = (if c0 = (t101 : Int).toNat then A0 else (A0 : Option Addr).map (·.add ((t101 : Int).toNat * 2))) := ⟨_, rfl⟩; obtain ⟨c22, hc22⟩ : ∃ c1, c1 = c0 - (t101 : Int).toNat := ⟨_, rfl⟩; have hy22 : y113.length = (t111 : Int).toNat - (t101 : Int).toNat := (by rw [Ny113.out, List.length_drop, List.length_take] <;> omega); rw [show ((l0).take (t111 : Int).toNat).drop (t101 : Int).toNat = y113 from Ny113.out.symm] at hr22; replace hr22 : Kd.C k69 _ A22 y113.length y113 := (by rw [hA22]; exact hr22); rw [← hy22, ← hA22, ← hc22] at hcut22; have HR116 := Aside0.mk hr22; have HC116 := Aside0.mk (show y113.length ≤ c22 from by rw [hy22, hc22]; exact Nat.sub_le_sub_right (Nat.le_trans (by omega) hroom22) _); clear hr22 hC22 hroom22 hi022 hsz22 hc22; have KY22 := Aside0.mk hy22; have KA22 := Aside0.mk hA22; clear hy22 hA22; replace q22 := eq_true q22) | ((with_reducible refine gate_callee (f := 67) rfl ?_); refine goesL_ (some 31) rfl rfl Try.func67 (by kernel_rfl) rfl #[.slice A22 y113.length c22] rfl (by (try simp only [List.map_toArray, List.map_cons, List.map_nil]); first | done | rfl | (simp only [List.length_drop, List.length_take]; rfl)) ?_; (with_reducible refine (api_Row_67.calls _ _ y113 t117 _ ?side1 ?side2 A18.out).mono ?_); (case side1 => repeat (first | exact (Kd.C_below HR116.out HB.out) | (with_reducible refine Kd.C_alloc ?_ _) | (with_reducible refine Kd.C_drewN ?_ _) | (with_reducible refine Kd.C_drew ?_))); (case side2 => exact HC116.out); rintro e w23 ⟨v118, rfl, ho0, hb⟩; refine ⟨_, rfl, ?_⟩; have n0_ := Aside0.mk (Kd.R_lower ho0 (below_size (by repeat (first | (with_reducible first | exact HB.out | apply below_alloc | apply pw_below_drewN | apply below_drew1) | exact HB.out)))); have n1_ := Aside0.mk (below_step (by repeat (first | (with_reducible first | exact HB.out | apply below_alloc | apply pw_below_drewN | apply below_drew1) | exact HB.out)) hb); clear HB; have HO119 := n0_; have HB := n1_; clear n0_ n1_; (try clear hb); (try clear hb2); (try clear hk); (try clear hi); (try clear ho0)))
          go_ret
          exact ⟨_, by first | rfl | (simp [errW_none, errW_some] <;> rfl) | (simp [*, errW_none, errW_some] <;> rfl), by (with_reducible repeat (first | apply Kd.R_alloc | apply Kd.R_drewN | apply Kd.R_drew)); exact HO119.out, by repeat (first | (with_reducible first | exact HB.out | apply below_alloc | apply pw_below_drewN | apply below_drew1) | exact HB.out)⟩
        · rw [if_neg c17] at H
          exact absurd H (by simp)
      · rw [if_neg c16] at H
        exact absurd H (by simp)
    · rw [if_neg c15] at H
      exact absurd H (by simp)

/-! ### rows_Begin: function 22 -/
def rows_Begin.f (k : Nat) (l0 : List (S69)) (a1 : ByteArray) : Option ((List (S69)) × Int) := (rows_Check.f k l0).bind fun t120 => (if t120 = 0 then ((rows_Beginning.f k l0 a1).bind fun t121 => (some (t121, 0))) else (some (([] : List (S69)), t120)))
theorem rows_Begin.mono : ∀ a0 a1 k, LeO (rows_Begin.f k a0 a1) (rows_Begin.f (k + 1) a0 a1) := by
  intro a0 a1 k
  unfold rows_Begin.f
  repeat' first
      | (with_reducible exact rows_Beginning.mono _ _ _)
      | (with_reducible exact rows_Check.mono _ _)
      | (with_reducible exact LeO.refl _)
      | (with_reducible exact LeO.none _)
      | (with_reducible refine LeO.ite ?_ ?_)
      | (with_reducible refine LeO.bind ?_ (fun _ => ?_))
      | exact rows_Beginning.mono _ _ _
      | exact rows_Check.mono _ _
      | exact LeO.none _
      | refine LeO.ite ?_ ?_
      | refine LeO.bind ?_ (fun _ => ?_)
set_option maxHeartbeats 8000000 in
set_option maxRecDepth 100000 in
theorem rows_Begin.calls (k : Nat) (A0 : Option Addr) (c0 : Nat) (l0 : List (S69)) (a1 : ByteArray) (r1 : List (S69)) (r2 : Int) (w : World) (hr0 : Kd.C k69 w A0 l0.length l0) (hc0 : l0.length ≤ c0) (h : rows_Begin.f k l0 a1 = some (r1, r2)) :
    Calls Try.prog 22 #[.slice A0 l0.length c0, .string a1] w fun e w' => ∃ v0_ : Value, e = .returned (.tuple #[v0_, .int .i64 r2]) ∧ Kd.R k69 69 w' w.heap.size (fun _ => True) v0_ r1 ∧ Below w.heap.size w w' := by
  have HR0 := Aside0.mk hr0
  have HC0 := Aside0.mk hc0
  clear hr0 hc0
  have HB := Aside0.mk (Below.refl w.heap.size w)
  have H : ((rows_Check.f k l0).bind fun t120 => (if t120 = 0 then ((rows_Beginning.f k l0 a1).bind fun t121 => (some (t121, 0))) else (some (([] : List (S69)), t120)))) = some (r1, r2) := h
  clear h
  replace H := Option.bind_eq_some_iff.mp H
  obtain ⟨t120, A30, H⟩ := H
  replace H : (if t120 = 0 then ((rows_Beginning.f k l0 a1).bind fun t121 => (some (t121, 0))) else (some (([] : List (S69)), t120))) = some (r1, r2) := H
  have A3 := Aside0.mk A30
  clear A30
  by_cases c4 : t120 = 0
  · rw [if_pos c4] at H
    have c4b0 : (t120 == 0) = true := beq_iff_eq.mpr c4
    have c4b1 : (t120 != 0) = false := bne_eq_false_iff_eq.mpr c4
    clear c4
    replace H := Option.bind_eq_some_iff.mp H
    obtain ⟨t121, A50, H⟩ := H
    replace H : (some (t121, 0)) = some (r1, r2) := H
    have A5 := Aside0.mk A50
    clear A50
    simp only [Option.some.injEq, Prod.mk.injEq] at H
    obtain ⟨rfl, rfl⟩ := H
    go_enter Try.func22, Try.ntmps22
    go_wp2_with (first | ((with_reducible refine gate_callee (f := 18) rfl ?_); refine goesL_ (some 8) rfl rfl Try.func18 (by kernel_rfl) rfl #[.slice A0 l0.length c0] rfl (by (try simp only [List.map_toArray, List.map_cons, List.map_nil]); first | done | rfl | (simp only [List.length_drop, List.length_take]; rfl)) ?_; (with_reducible refine (rows_Check.calls k _ _ l0 t120 _ ?side1 ?side2 A3.out).mono ?_); (case side1 => repeat (first | exact HR0.out | (with_reducible refine Kd.C_alloc ?_ _) | (with_reducible refine Kd.C_drewN ?_ _) | (with_reducible refine Kd.C_drew ?_))); (case side2 => exact HC0.out); rintro e w6 ⟨rfl, hb⟩; refine ⟨_, rfl, ?_⟩; have n0_ := Aside0.mk (below_step (by repeat (first | (with_reducible first | exact HB.out | apply below_alloc | apply pw_below_drewN | apply below_drew1) | exact HB.out)) hb); clear HB; have HB := n0_; clear n0_; (try clear hb); (try clear hb2); (try clear hk); (try clear hi)) | ((with_reducible refine gate_callee (f := 46) rfl ?_); refine goesL_ (some 14) rfl rfl Try.func46 (by kernel_rfl) rfl #[.slice A0 l0.length c0, .string a1] rfl (by (try simp only [List.map_toArray, List.map_cons, List.map_nil]); first | done | rfl | (simp only [List.length_drop, List.length_take]; rfl)) ?_; (with_reducible refine (rows_Beginning.calls k _ _ l0 a1 t121 _ ?side1 ?side2 A5.out).mono ?_); (case side1 => repeat (first | exact (Kd.C_below HR0.out HB.out) | (with_reducible refine Kd.C_alloc ?_ _) | (with_reducible refine Kd.C_drewN ?_ _) | (with_reducible refine Kd.C_drew ?_))); (case side2 => exact HC0.out); rintro e w7 ⟨v122, rfl, ho0, hb⟩; refine ⟨_, rfl, ?_⟩; have n0_ := Aside0.mk (Kd.R_lower ho0 (below_size (by repeat (first | (with_reducible first | exact HB.out | apply below_alloc | apply pw_below_drewN | apply below_drew1) | exact HB.out)))); have n1_ := Aside0.mk (below_step (by repeat (first | (with_reducible first | exact HB.out | apply below_alloc | apply pw_below_drewN | apply below_drew1) | exact HB.out)) hb); clear HB; have HO123 := n0_; have HB := n1_; clear n0_ n1_; (try clear hb); (try clear hb2); (try clear hk); (try clear hi); (try clear ho0)))
    go_ret2
    exact ⟨_, by first | rfl | (simp [errW_none, errW_some] <;> rfl) | (simp [*, errW_none, errW_some] <;> rfl), by (with_reducible repeat (first | apply Kd.R_alloc | apply Kd.R_drewN | apply Kd.R_drew)); exact HO123.out, by repeat (first | (with_reducible first | exact HB.out | apply below_alloc | apply pw_below_drewN | apply below_drew1) | exact HB.out)⟩
  · rw [if_neg c4] at H
    have c4b0 : (t120 == 0) = false := beq_eq_false_iff_ne.mpr c4
    have c4b1 : (t120 != 0) = true := bne_iff_ne.mpr c4
    simp only [Option.some.injEq, Prod.mk.injEq] at H
    obtain ⟨rfl, rfl⟩ := H
    go_enter Try.func22, Try.ntmps22
    go_wp2_with (first | ((with_reducible refine gate_callee (f := 18) rfl ?_); refine goesL_ (some 8) rfl rfl Try.func18 (by kernel_rfl) rfl #[.slice A0 l0.length c0] rfl (by (try simp only [List.map_toArray, List.map_cons, List.map_nil]); first | done | rfl | (simp only [List.length_drop, List.length_take]; rfl)) ?_; (with_reducible refine (rows_Check.calls k _ _ l0 t120 _ ?side1 ?side2 A3.out).mono ?_); (case side1 => repeat (first | exact HR0.out | (with_reducible refine Kd.C_alloc ?_ _) | (with_reducible refine Kd.C_drewN ?_ _) | (with_reducible refine Kd.C_drew ?_))); (case side2 => exact HC0.out); rintro e w8 ⟨rfl, hb⟩; refine ⟨_, rfl, ?_⟩; have n0_ := Aside0.mk (below_step (by repeat (first | (with_reducible first | exact HB.out | apply below_alloc | apply pw_below_drewN | apply below_drew1) | exact HB.out)) hb); clear HB; have HB := n0_; clear n0_; (try clear hb); (try clear hb2); (try clear hk); (try clear hi)))
    go_ret2
    exact ⟨_, by first | rfl | (simp [errW_none, errW_some] <;> rfl) | (simp [*, errW_none, errW_some] <;> rfl), by first | exact Kd.R_nil _ _ _ _ _ | exact Kd.N_nil _ _ _ _ _ | exact Kd.V_nil _ _ _ _ _ | exact Kd.Q_nil _ _ _ _ _ | exact Kd.S_nil _ _ _ _ _, by repeat (first | (with_reducible first | exact HB.out | apply below_alloc | apply pw_below_drewN | apply below_drew1) | exact HB.out)⟩

/-! ### bagnallref_RowsBegin: function 23 -/
def bagnallref_RowsBegin.f (k : Nat) (l0 : List (S69)) (a1 : ByteArray) : Option ((List (S69)) × Int) := (bagnallref_RowsFault.f k l0).bind fun t124 => (if t124 = 0 then ((bagnallref_rowsBegin.f k l0 a1).bind fun t125 => (some (t125, 0))) else (some (([] : List (S69)), t124)))
theorem bagnallref_RowsBegin.mono : ∀ a0 a1 k, LeO (bagnallref_RowsBegin.f k a0 a1) (bagnallref_RowsBegin.f (k + 1) a0 a1) := by
  intro a0 a1 k
  unfold bagnallref_RowsBegin.f
  repeat' first
      | (with_reducible exact bagnallref_RowsFault.mono _ _)
      | (with_reducible exact bagnallref_rowsBegin.mono _ _ _)
      | (with_reducible exact LeO.refl _)
      | (with_reducible exact LeO.none _)
      | (with_reducible refine LeO.ite ?_ ?_)
      | (with_reducible refine LeO.bind ?_ (fun _ => ?_))
      | exact bagnallref_RowsFault.mono _ _
      | exact bagnallref_rowsBegin.mono _ _ _
      | exact LeO.none _
      | refine LeO.ite ?_ ?_
      | refine LeO.bind ?_ (fun _ => ?_)
set_option maxHeartbeats 8000000 in
set_option maxRecDepth 100000 in
theorem bagnallref_RowsBegin.calls (k : Nat) (A0 : Option Addr) (c0 : Nat) (l0 : List (S69)) (a1 : ByteArray) (r1 : List (S69)) (r2 : Int) (w : World) (hr0 : Kd.C k69 w A0 l0.length l0) (hc0 : l0.length ≤ c0) (h : bagnallref_RowsBegin.f k l0 a1 = some (r1, r2)) :
    Calls Try.prog 23 #[.slice A0 l0.length c0, .string a1] w fun e w' => ∃ v0_ : Value, e = .returned (.tuple #[v0_, .int .i64 r2]) ∧ Kd.R k69 69 w' w.heap.size (fun _ => True) v0_ r1 ∧ Below w.heap.size w w' := by
  have HR0 := Aside0.mk hr0
  have HC0 := Aside0.mk hc0
  clear hr0 hc0
  have HB := Aside0.mk (Below.refl w.heap.size w)
  have H : ((bagnallref_RowsFault.f k l0).bind fun t124 => (if t124 = 0 then ((bagnallref_rowsBegin.f k l0 a1).bind fun t125 => (some (t125, 0))) else (some (([] : List (S69)), t124)))) = some (r1, r2) := h
  clear h
  replace H := Option.bind_eq_some_iff.mp H
  obtain ⟨t124, A30, H⟩ := H
  replace H : (if t124 = 0 then ((bagnallref_rowsBegin.f k l0 a1).bind fun t125 => (some (t125, 0))) else (some (([] : List (S69)), t124))) = some (r1, r2) := H
  have A3 := Aside0.mk A30
  clear A30
  by_cases c4 : t124 = 0
  · rw [if_pos c4] at H
    have c4b0 : (t124 == 0) = true := beq_iff_eq.mpr c4
    have c4b1 : (t124 != 0) = false := bne_eq_false_iff_eq.mpr c4
    clear c4
    replace H := Option.bind_eq_some_iff.mp H
    obtain ⟨t125, A50, H⟩ := H
    replace H : (some (t125, 0)) = some (r1, r2) := H
    have A5 := Aside0.mk A50
    clear A50
    simp only [Option.some.injEq, Prod.mk.injEq] at H
    obtain ⟨rfl, rfl⟩ := H
    go_enter Try.func23, Try.ntmps23
    go_wp2_with (first | ((with_reducible refine gate_callee (f := 19) rfl ?_); refine goesL_ (some 8) rfl rfl Try.func19 (by kernel_rfl) rfl #[.slice A0 l0.length c0] rfl (by (try simp only [List.map_toArray, List.map_cons, List.map_nil]); first | done | rfl | (simp only [List.length_drop, List.length_take]; rfl)) ?_; (with_reducible refine (bagnallref_RowsFault.calls k _ _ l0 t124 _ ?side1 ?side2 A3.out).mono ?_); (case side1 => repeat (first | exact HR0.out | (with_reducible refine Kd.C_alloc ?_ _) | (with_reducible refine Kd.C_drewN ?_ _) | (with_reducible refine Kd.C_drew ?_))); (case side2 => exact HC0.out); rintro e w6 ⟨rfl, hb⟩; refine ⟨_, rfl, ?_⟩; have n0_ := Aside0.mk (below_step (by repeat (first | (with_reducible first | exact HB.out | apply below_alloc | apply pw_below_drewN | apply below_drew1) | exact HB.out)) hb); clear HB; have HB := n0_; clear n0_; (try clear hb); (try clear hb2); (try clear hk); (try clear hi)) | ((with_reducible refine gate_callee (f := 47) rfl ?_); refine goesL_ (some 14) rfl rfl Try.func47 (by kernel_rfl) rfl #[.slice A0 l0.length c0, .string a1] rfl (by (try simp only [List.map_toArray, List.map_cons, List.map_nil]); first | done | rfl | (simp only [List.length_drop, List.length_take]; rfl)) ?_; (with_reducible refine (bagnallref_rowsBegin.calls k _ _ l0 a1 t125 _ ?side1 ?side2 A5.out).mono ?_); (case side1 => repeat (first | exact (Kd.C_below HR0.out HB.out) | (with_reducible refine Kd.C_alloc ?_ _) | (with_reducible refine Kd.C_drewN ?_ _) | (with_reducible refine Kd.C_drew ?_))); (case side2 => exact HC0.out); rintro e w7 ⟨v126, rfl, ho0, hb⟩; refine ⟨_, rfl, ?_⟩; have n0_ := Aside0.mk (Kd.R_lower ho0 (below_size (by repeat (first | (with_reducible first | exact HB.out | apply below_alloc | apply pw_below_drewN | apply below_drew1) | exact HB.out)))); have n1_ := Aside0.mk (below_step (by repeat (first | (with_reducible first | exact HB.out | apply below_alloc | apply pw_below_drewN | apply below_drew1) | exact HB.out)) hb); clear HB; have HO127 := n0_; have HB := n1_; clear n0_ n1_; (try clear hb); (try clear hb2); (try clear hk); (try clear hi); (try clear ho0)))
    go_ret2
    exact ⟨_, by first | rfl | (simp [errW_none, errW_some] <;> rfl) | (simp [*, errW_none, errW_some] <;> rfl), by (with_reducible repeat (first | apply Kd.R_alloc | apply Kd.R_drewN | apply Kd.R_drew)); exact HO127.out, by repeat (first | (with_reducible first | exact HB.out | apply below_alloc | apply pw_below_drewN | apply below_drew1) | exact HB.out)⟩
  · rw [if_neg c4] at H
    have c4b0 : (t124 == 0) = false := beq_eq_false_iff_ne.mpr c4
    have c4b1 : (t124 != 0) = true := bne_iff_ne.mpr c4
    simp only [Option.some.injEq, Prod.mk.injEq] at H
    obtain ⟨rfl, rfl⟩ := H
    go_enter Try.func23, Try.ntmps23
    go_wp2_with (first | ((with_reducible refine gate_callee (f := 19) rfl ?_); refine goesL_ (some 8) rfl rfl Try.func19 (by kernel_rfl) rfl #[.slice A0 l0.length c0] rfl (by (try simp only [List.map_toArray, List.map_cons, List.map_nil]); first | done | rfl | (simp only [List.length_drop, List.length_take]; rfl)) ?_; (with_reducible refine (bagnallref_RowsFault.calls k _ _ l0 t124 _ ?side1 ?side2 A3.out).mono ?_); (case side1 => repeat (first | exact HR0.out | (with_reducible refine Kd.C_alloc ?_ _) | (with_reducible refine Kd.C_drewN ?_ _) | (with_reducible refine Kd.C_drew ?_))); (case side2 => exact HC0.out); rintro e w8 ⟨rfl, hb⟩; refine ⟨_, rfl, ?_⟩; have n0_ := Aside0.mk (below_step (by repeat (first | (with_reducible first | exact HB.out | apply below_alloc | apply pw_below_drewN | apply below_drew1) | exact HB.out)) hb); clear HB; have HB := n0_; clear n0_; (try clear hb); (try clear hb2); (try clear hk); (try clear hi)))
    go_ret2
    exact ⟨_, by first | rfl | (simp [errW_none, errW_some] <;> rfl) | (simp [*, errW_none, errW_some] <;> rfl), by first | exact Kd.R_nil _ _ _ _ _ | exact Kd.N_nil _ _ _ _ _ | exact Kd.V_nil _ _ _ _ _ | exact Kd.Q_nil _ _ _ _ _ | exact Kd.S_nil _ _ _ _ _, by repeat (first | (with_reducible first | exact HB.out | apply below_alloc | apply pw_below_drewN | apply below_drew1) | exact HB.out)⟩

/-! ### bagnalllaw_RowsBegins: function 6 -/
def bagnalllaw_RowsBegins.f (k : Nat) (l0 : List (S69)) (a1 : ByteArray) : Option (Bool) := (rows_Begin.f k l0 a1).bind fun bt128 => ((bagnallref_RowsBegin.f k l0 a1).bind fun bt132 => ((bagnalllaw_sameRows.f k bt128.1 bt132.1).bind fun t136 => (if t136 = true then (some (bt128.2 == bt132.2)) else (some false))))
theorem bagnalllaw_RowsBegins.mono : ∀ a0 a1 k, LeO (bagnalllaw_RowsBegins.f k a0 a1) (bagnalllaw_RowsBegins.f (k + 1) a0 a1) := by
  intro a0 a1 k
  unfold bagnalllaw_RowsBegins.f
  repeat' first
      | (with_reducible exact bagnalllaw_sameRows.mono _ _ _)
      | (with_reducible exact bagnallref_RowsBegin.mono _ _ _)
      | (with_reducible exact rows_Begin.mono _ _ _)
      | (with_reducible exact LeO.refl _)
      | (with_reducible exact LeO.none _)
      | (with_reducible refine LeO.ite ?_ ?_)
      | (with_reducible refine LeO.bind ?_ (fun _ => ?_))
      | exact bagnalllaw_sameRows.mono _ _ _
      | exact bagnallref_RowsBegin.mono _ _ _
      | exact rows_Begin.mono _ _ _
      | exact LeO.none _
      | refine LeO.ite ?_ ?_
      | refine LeO.bind ?_ (fun _ => ?_)
set_option maxHeartbeats 8000000 in
set_option maxRecDepth 100000 in
theorem bagnalllaw_RowsBegins.calls (k : Nat) (A0 : Option Addr) (c0 : Nat) (l0 : List (S69)) (a1 : ByteArray) (r : Bool) (w : World) (hr0 : Kd.C k69 w A0 l0.length l0) (hc0 : l0.length ≤ c0) (h : bagnalllaw_RowsBegins.f k l0 a1 = some r) :
    Calls Try.prog 6 #[.slice A0 l0.length c0, .string a1] w fun e w' => e = .returned (.bool r) ∧ Below w.heap.size w w' := by
  have HR0 := Aside0.mk hr0
  have HC0 := Aside0.mk hc0
  clear hr0 hc0
  have HB := Aside0.mk (Below.refl w.heap.size w)
  have H : ((rows_Begin.f k l0 a1).bind fun bt128 => ((bagnallref_RowsBegin.f k l0 a1).bind fun bt132 => ((bagnalllaw_sameRows.f k bt128.1 bt132.1).bind fun t136 => (if t136 = true then (some (bt128.2 == bt132.2)) else (some false))))) = some r := h
  clear h
  replace H := Option.bind_eq_some_iff.mp H
  obtain ⟨⟨t128, t129⟩, A30, H⟩ := H
  replace H : ((bagnallref_RowsBegin.f k l0 a1).bind fun bt132 => ((bagnalllaw_sameRows.f k t128 bt132.1).bind fun t136 => (if t136 = true then (some (t129 == bt132.2)) else (some false)))) = some r := H
  have A3 := Aside0.mk A30
  clear A30
  replace H := Option.bind_eq_some_iff.mp H
  obtain ⟨⟨t132, t133⟩, A40, H⟩ := H
  replace H : ((bagnalllaw_sameRows.f k t128 t132).bind fun t136 => (if t136 = true then (some (t129 == t133)) else (some false))) = some r := H
  have A4 := Aside0.mk A40
  clear A40
  replace H := Option.bind_eq_some_iff.mp H
  obtain ⟨t136, A50, H⟩ := H
  replace H : (if t136 = true then (some (t129 == t133)) else (some false)) = some r := H
  have A5 := Aside0.mk A50
  clear A50
  by_cases c6 : t136 = true
  · subst c6
    have H1 : (some (t129 == t133)) = some r := by rw [if_pos rfl] at H; exact H
    clear H
    have H := H1
    clear H1
    obtain rfl := Option.some.inj H
    go_enter Try.func6, Try.ntmps6
    go_wp2_with (first | ((with_reducible refine gate_callee (f := 22) rfl ?_); refine goesL_ (some 12) rfl rfl Try.func22 (by kernel_rfl) rfl #[.slice A0 l0.length c0, .string a1] rfl (by (try simp only [List.map_toArray, List.map_cons, List.map_nil]); first | done | rfl | (simp only [List.length_drop, List.length_take]; rfl)) ?_; (with_reducible refine (rows_Begin.calls k _ _ l0 a1 t128 t129 _ ?side1 ?side2 A3.out).mono ?_); (case side1 => repeat (first | exact HR0.out | (with_reducible refine Kd.C_alloc ?_ _) | (with_reducible refine Kd.C_drewN ?_ _) | (with_reducible refine Kd.C_drew ?_))); (case side2 => exact HC0.out); rintro e w7 ⟨v130, rfl, ho0, hb⟩; refine ⟨_, rfl, ?_⟩; have n0_ := Aside0.mk (Kd.R_lower ho0 (below_size (by repeat (first | (with_reducible first | exact HB.out | apply below_alloc | apply pw_below_drewN | apply below_drew1) | exact HB.out)))); have n1_ := Aside0.mk (below_step (by repeat (first | (with_reducible first | exact HB.out | apply below_alloc | apply pw_below_drewN | apply below_drew1) | exact HB.out)) hb); clear HB; have HO131 := n0_; have HB := n1_; clear n0_ n1_; (try clear hb); (try clear hb2); (try clear hk); (try clear hi); (try clear ho0)) | ((with_reducible refine gate_callee (f := 23) rfl ?_); refine goesL_ (some 18) rfl rfl Try.func23 (by kernel_rfl) rfl #[.slice A0 l0.length c0, .string a1] rfl (by (try simp only [List.map_toArray, List.map_cons, List.map_nil]); first | done | rfl | (simp only [List.length_drop, List.length_take]; rfl)) ?_; (with_reducible refine (bagnallref_RowsBegin.calls k _ _ l0 a1 t132 t133 _ ?side1 ?side2 A4.out).mono ?_); (case side1 => repeat (first | exact (Kd.C_below HR0.out HB.out) | (with_reducible refine Kd.C_alloc ?_ _) | (with_reducible refine Kd.C_drewN ?_ _) | (with_reducible refine Kd.C_drew ?_))); (case side2 => exact HC0.out); rintro e w8 ⟨v134, rfl, ho0, hb⟩; refine ⟨_, rfl, ?_⟩; have n0_ := Aside0.mk (Kd.R_elder' (by (with_reducible repeat (first | apply Kd.R_alloc | apply Kd.R_drewN | apply Kd.R_drew)); exact HO131.out) (Kd.R_base ho0) hb); have n1_ := Aside0.mk (Kd.R_lower (Kd.R_new' ho0 (Kd.R_lt (by (with_reducible repeat (first | apply Kd.R_alloc | apply Kd.R_drewN | apply Kd.R_drew)); exact HO131.out))) (below_size (by repeat (first | (with_reducible first | exact HB.out | apply below_alloc | apply pw_below_drewN | apply below_drew1) | exact HB.out)))); have n2_ := Aside0.mk (below_step (by repeat (first | (with_reducible first | exact HB.out | apply below_alloc | apply pw_below_drewN | apply below_drew1) | exact HB.out)) hb); clear HO131; clear HB; have HO131 := n0_; have HO135 := n1_; have HB := n2_; clear n0_ n1_ n2_; (try clear hb); (try clear hb2); (try clear hk); (try clear hi); (try clear ho0); obtain ⟨Ao9, co9, eo9⟩ := Kd.R_slice HO131.out; subst eo9; obtain ⟨Ao10, co10, eo10⟩ := Kd.R_slice HO135.out; subst eo10) | ((with_reducible refine gate_callee (f := 24) rfl ?_); refine goesL_ (some 23) rfl rfl Try.func24 (by kernel_rfl) rfl #[.slice Ao9 t128.length co9, .slice Ao10 t132.length co10] rfl (by (try simp only [List.map_toArray, List.map_cons, List.map_nil]); first | done | rfl | (simp only [List.length_drop, List.length_take]; rfl)) ?_; (with_reducible refine (bagnalllaw_sameRows.calls k _ _ t128 _ _ t132 true _ ?side1 ?side2 ?side3 ?side4 A5.out).mono ?_); (case side1 => repeat (first | exact (Kd.R_reads' HO131.out).2.2 | (with_reducible refine Kd.C_alloc ?_ _) | (with_reducible refine Kd.C_drewN ?_ _) | (with_reducible refine Kd.C_drew ?_))); (case side2 => exact (Kd.R_reads' HO131.out).2.1); (case side3 => repeat (first | exact (Kd.R_reads' HO135.out).2.2 | (with_reducible refine Kd.C_alloc ?_ _) | (with_reducible refine Kd.C_drewN ?_ _) | (with_reducible refine Kd.C_drew ?_))); (case side4 => exact (Kd.R_reads' HO135.out).2.1); rintro e w' ⟨rfl, ⟨nd, rfl⟩⟩; refine ⟨_, rfl, ?_⟩))
    go_ret
    exact ⟨by first | rfl | (simp [errW_none, errW_some] <;> rfl) | (simp [*, errW_none, errW_some] <;> rfl), by repeat (first | (with_reducible first | exact HB.out | apply below_alloc | apply pw_below_drewN | apply below_drew1) | exact HB.out)⟩
  · replace c6 := Bool.eq_false_iff.mpr c6
    subst c6
    have H1 : (some false) = some r := by rw [if_neg (show ¬ (false = true) by decide)] at H; exact H
    clear H
    have H := H1
    clear H1
    obtain rfl := Option.some.inj H
    go_enter Try.func6, Try.ntmps6
    go_wp2_with (first | ((with_reducible refine gate_callee (f := 22) rfl ?_); refine goesL_ (some 12) rfl rfl Try.func22 (by kernel_rfl) rfl #[.slice A0 l0.length c0, .string a1] rfl (by (try simp only [List.map_toArray, List.map_cons, List.map_nil]); first | done | rfl | (simp only [List.length_drop, List.length_take]; rfl)) ?_; (with_reducible refine (rows_Begin.calls k _ _ l0 a1 t128 t129 _ ?side1 ?side2 A3.out).mono ?_); (case side1 => repeat (first | exact HR0.out | (with_reducible refine Kd.C_alloc ?_ _) | (with_reducible refine Kd.C_drewN ?_ _) | (with_reducible refine Kd.C_drew ?_))); (case side2 => exact HC0.out); rintro e w11 ⟨v130, rfl, ho0, hb⟩; refine ⟨_, rfl, ?_⟩; have n0_ := Aside0.mk (Kd.R_lower ho0 (below_size (by repeat (first | (with_reducible first | exact HB.out | apply below_alloc | apply pw_below_drewN | apply below_drew1) | exact HB.out)))); have n1_ := Aside0.mk (below_step (by repeat (first | (with_reducible first | exact HB.out | apply below_alloc | apply pw_below_drewN | apply below_drew1) | exact HB.out)) hb); clear HB; have HO131 := n0_; have HB := n1_; clear n0_ n1_; (try clear hb); (try clear hb2); (try clear hk); (try clear hi); (try clear ho0)) | ((with_reducible refine gate_callee (f := 23) rfl ?_); refine goesL_ (some 18) rfl rfl Try.func23 (by kernel_rfl) rfl #[.slice A0 l0.length c0, .string a1] rfl (by (try simp only [List.map_toArray, List.map_cons, List.map_nil]); first | done | rfl | (simp only [List.length_drop, List.length_take]; rfl)) ?_; (with_reducible refine (bagnallref_RowsBegin.calls k _ _ l0 a1 t132 t133 _ ?side1 ?side2 A4.out).mono ?_); (case side1 => repeat (first | exact (Kd.C_below HR0.out HB.out) | (with_reducible refine Kd.C_alloc ?_ _) | (with_reducible refine Kd.C_drewN ?_ _) | (with_reducible refine Kd.C_drew ?_))); (case side2 => exact HC0.out); rintro e w12 ⟨v134, rfl, ho0, hb⟩; refine ⟨_, rfl, ?_⟩; have n0_ := Aside0.mk (Kd.R_elder' (by (with_reducible repeat (first | apply Kd.R_alloc | apply Kd.R_drewN | apply Kd.R_drew)); exact HO131.out) (Kd.R_base ho0) hb); have n1_ := Aside0.mk (Kd.R_lower (Kd.R_new' ho0 (Kd.R_lt (by (with_reducible repeat (first | apply Kd.R_alloc | apply Kd.R_drewN | apply Kd.R_drew)); exact HO131.out))) (below_size (by repeat (first | (with_reducible first | exact HB.out | apply below_alloc | apply pw_below_drewN | apply below_drew1) | exact HB.out)))); have n2_ := Aside0.mk (below_step (by repeat (first | (with_reducible first | exact HB.out | apply below_alloc | apply pw_below_drewN | apply below_drew1) | exact HB.out)) hb); clear HO131; clear HB; have HO131 := n0_; have HO135 := n1_; have HB := n2_; clear n0_ n1_ n2_; (try clear hb); (try clear hb2); (try clear hk); (try clear hi); (try clear ho0); obtain ⟨Ao13, co13, eo13⟩ := Kd.R_slice HO131.out; subst eo13; obtain ⟨Ao14, co14, eo14⟩ := Kd.R_slice HO135.out; subst eo14) | ((with_reducible refine gate_callee (f := 24) rfl ?_); refine goesL_ (some 23) rfl rfl Try.func24 (by kernel_rfl) rfl #[.slice Ao13 t128.length co13, .slice Ao14 t132.length co14] rfl (by (try simp only [List.map_toArray, List.map_cons, List.map_nil]); first | done | rfl | (simp only [List.length_drop, List.length_take]; rfl)) ?_; (with_reducible refine (bagnalllaw_sameRows.calls k _ _ t128 _ _ t132 false _ ?side1 ?side2 ?side3 ?side4 A5.out).mono ?_); (case side1 => repeat (first | exact (Kd.R_reads' HO131.out).2.2 | (with_reducible refine Kd.C_alloc ?_ _) | (with_reducible refine Kd.C_drewN ?_ _) | (with_reducible refine Kd.C_drew ?_))); (case side2 => exact (Kd.R_reads' HO131.out).2.1); (case side3 => repeat (first | exact (Kd.R_reads' HO135.out).2.2 | (with_reducible refine Kd.C_alloc ?_ _) | (with_reducible refine Kd.C_drewN ?_ _) | (with_reducible refine Kd.C_drew ?_))); (case side4 => exact (Kd.R_reads' HO135.out).2.1); rintro e w' ⟨rfl, ⟨nd, rfl⟩⟩; refine ⟨_, rfl, ?_⟩))
    go_ret
    exact ⟨by first | rfl | (simp [errW_none, errW_some] <;> rfl) | (simp [*, errW_none, errW_some] <;> rfl), by repeat (first | (with_reducible first | exact HB.out | apply below_alloc | apply pw_below_drewN | apply below_drew1) | exact HB.out)⟩

end Go.Proofs.Ytnjidfgjldkkcaa.Q
/- rows.Begin answers as the reference does, for every table and every head that a memory bears; no condition. -/
namespace Go.Proofs.Ytnjidfgjldkkcaa.Pure
open Go.RowKit Go.Proofs.Ytnjidfgjldkkcaa.Q Go.Proofs.YtnjidfgjldkkcaaW.PrintWords Go.Proofs.Ytnjidfgjldkkcaa.Plain

theorem toList_extract0 (s : ByteArray) (n : Nat) : (s.extract 0 n).toList = s.toList.take n := by
  rw [Go.ByteArray.toList_eq, Go.ByteArray.toList_eq, ByteArray.data_extract, Array.toList_extract]
  simp
theorem begin_l0 (l : List S69) (h : ByteArray) (hl : l.length ≤ 40) : ∀ (d i : Nat) (x : List S69), i + d = l.length → x.length ≤ i → Ev (fun n => bagnallref_rowsBegin.l0 n h x l (l.length : Int) (i : Int)) (x ++ (l.drop i).filter fun r => pfx h r.f0)
  | 0, i, x, hi, hx => by
    rw [List.drop_of_length_le (by omega), List.filter_nil, List.append_nil]
    exact Ev.step (fun k => rfl) (Ev.neg (by omega) (Ev.now _))
  | d + 1, i, x, hi, hx => by
    have hlt : i < l.length := by omega
    have e2 : wrap64 ((i : Int) + 1) = ((i + 1 : Nat) : Int) := wrap_succ (by omega)
    rw [List.drop_eq_getElem_cons hlt]
    refine Ev.step (fun k => rfl) (Ev.pos (by omega) (Ev.pos (by omega) (Ev.pos (by omega) ?_)))
    rw [rd69 hlt, e2]
    have hsz := len_toList h
    have hsk := len_toList l[i].f0
    by_cases h1 : ((l[i].f0.size : Int) ≥ (h.size : Int))
    · refine Ev.pos h1 (Ev.pos (by omega) (Ev.pos (by omega) ?_))
      rw [toList_extract0]
      by_cases h2 : l[i].f0.toList.take h.size = h.toList
      · have hp : (fun r : S69 => pfx h r.f0) l[i] = true := by show pfx h l[i].f0 = true; unfold pfx; rw [hsz]; exact decide_eq_true h2
        rw [List.filter_cons_of_pos (p := fun r : S69 => pfx h r.f0) hp]
        refine Ev.pos h2 (Ev.pos (by omega) ?_)
        have := begin_l0 l h hl d (i + 1) (x ++ [l[i]]) (by omega) (by simp; omega)
        rw [List.append_assoc, List.singleton_append] at this
        exact this
      · have hp : ¬ (fun r : S69 => pfx h r.f0) l[i] = true := by show ¬ pfx h l[i].f0 = true; unfold pfx; rw [hsz]; simpa using h2
        rw [List.filter_cons_of_neg (p := fun r : S69 => pfx h r.f0) hp]
        exact Ev.neg h2 (begin_l0 l h hl d (i + 1) x (by omega) (by omega))
    · have hp : ¬ (fun r : S69 => pfx h r.f0) l[i] = true := by
        show ¬ pfx h l[i].f0 = true
        unfold pfx
        rw [hsz, decide_eq_true_eq]
        intro e
        have := congrArg List.length e
        rw [List.length_take] at this
        omega
      rw [List.filter_cons_of_neg (p := fun r : S69 => pfx h r.f0) hp]
      exact Ev.neg h1 (begin_l0 l h hl d (i + 1) x (by omega) (by omega))

theorem tw_le {α : Type} (p q : α → Bool) : ∀ l : List α, (∀ x ∈ l, p x = true → q x = true) → (l.takeWhile p).length ≤ (l.takeWhile q).length
  | [], _ => Nat.le_refl _
  | a :: t, h => by
    have ih := tw_le p q t (fun x hx => h x (by simp [hx]))
    by_cases hp : p a = true
    · rw [List.takeWhile_cons_of_pos hp, List.takeWhile_cons_of_pos (h a (by simp) hp)]
      simpa using ih
    · rw [List.takeWhile_cons_of_neg hp]; simp
theorem begin_ev (l : List S69) (h : ByteArray) (hh : h.size ≤ 140737488351232) : ∃ q, Ev (fun n => rows_Begin.f n l h) q ∧ Ev (fun n => bagnallref_RowsBegin.f n l h) q ∧ q.1.length ≤ 40 := by
  unfold rows_Begin.f bagnallref_RowsBegin.f
  by_cases h0 : ¬ rowsErr l = 0
  · exact ⟨(([] : List S69), rowsErr l), Ev.bind (check_ev l) (Ev.neg h0 (Ev.now _)), Ev.bind (fault_ev l) (Ev.neg h0 (Ev.now _)), by simp⟩
  replace h0 : rowsErr l = 0 := Decidable.not_not.1 h0
  obtain ⟨hl, _, ha⟩ := rowsErr_zero h0
  have hs := begin_l0 l h hl l.length 0 [] (by omega) (by simp)
  rw [List.drop_zero, List.nil_append] at hs
  have hb : Ev (fun n => bagnallref_rowsBegin.f n l h) (l.filter fun r => pfx h r.f0) := hs
  refine ⟨(l.filter fun r => pfx h r.f0, 0), Ev.bind (check_ev l) (Ev.pos h0 (Ev.bind ?_ (Ev.now _))), Ev.bind (fault_ev l) (Ev.pos h0 (Ev.bind hb (Ev.now _))), Nat.le_trans (List.length_filter_le _ _) hl⟩
  have hp : ∀ k, rows_place.f l k = some ((cut l k : Int), placeB l k) := by
    intro k
    unfold rows_place.f
    rw [if_pos (by omega), placeI_cut ha]
  have hnx := next_nx h h.size (Nat.le_refl _)
  rw [show h.toList.take h.size = h.toList by rw [← len_toList, List.take_length]] at hnx
  have hne := next_ev h hh h.size (Nat.le_refl _)
  rw [head_whole] at hne
  have hsg := begin_seg ha h _ hnx
  generalize strOfNums (Q.raised h (trimLen h h.size)) = n at hne hsg hnx
  have hcl := cut_le l h
  have hc2 := cut_le l n
  have hlo : ¬ n.toList = [] → cut l h ≤ cut l n := by
    intro e
    refine tw_le _ _ l fun x _ hx => ?_
    rcases less_nx _ _ hx with h2 | h2
    · rw [← hnx] at h2; exact absurd h2 e
    · unfold kl; rw [hnx]; exact h2
  have hne' : Ev (fun k => rows_Next.f k h) n := hne
  unfold rows_Beginning.f
  refine Ev.bind (Ev.lift (hp h)) (Ev.bind hne' ?_)
  by_cases e : n.toList = []
  · rw [if_pos e] at hsg
    refine Ev.pos e (Ev.pos (by simp) (Ev.pos (by simp; omega) (Ev.pos (by omega) (Ev.lift ?_))))
    simp only [Int.toNat_natCast]
    rw [hsg]
    unfold api_Row_67.f
    rw [if_pos (Nat.le_trans (List.length_filter_le _ _) (by omega))]
    rfl
  · rw [if_neg e] at hsg
    have := hlo e
    refine Ev.neg e (Ev.bind (Ev.lift (hp n)) (Ev.pos (by simp) (Ev.pos (by simp; omega) (Ev.pos (by simp; omega) (Ev.lift ?_)))))
    simp only [Int.toNat_natCast]
    rw [hsg]
    unfold api_Row_67.f
    rw [if_pos (Nat.le_trans (List.length_filter_le _ _) (by omega))]
    rfl

theorem walkRowsBegins (W : World) (l : List S69) (A : Option Addr) (c : Nat) (hc : l.length ≤ c) (C : Kd.C k69 W A l.length l)
    (_ : l.length ≤ 9223372036854775807 ∧ l.length * Try.prog.bytesOf 69 ≤ 140737488351232 ∧ ∀ x ∈ l, x.f0.size ≤ 140737488351232 ∧ x.f1.size ≤ 140737488351232) (h : ByteArray) (hh : h.size ≤ 140737488351232) :
    Calls Try.prog 6 #[.slice A l.length c, .string h] W fun e w' => e = .returned (.bool true) ∧ Below W.heap.size W w' := by
  obtain ⟨n, hn⟩ : ∃ n, bagnalllaw_RowsBegins.f n l h = some true := Ev.rounds (by
    unfold bagnalllaw_RowsBegins.f
    obtain ⟨q, h1, h2, h3⟩ := begin_ev l h hh
    exact Ev.bind h1 (Ev.bind h2 (Ev.bind (same_ev q.1 (by omega)) (Ev.pos rfl (Ev.to (Ev.now _) (by simp))))))
  exact bagnalllaw_RowsBegins.calls n A c l h true W C hc hn
end Go.Proofs.Ytnjidfgjldkkcaa.Pure
-- Written for this seat by a program of its session (xp.py over the kit's printer).
namespace Go.Proofs.Ytnjidfgjldkkcaa.Q
open Go.RowKit Go.Proofs.YtnjidfgjldkkcaaW.PrintWords Go.Proofs.YtnjidfgjldkkcaaW.PrintLast Go.Proofs.YtnjidfgjldkkcaaW.PrintMore
attribute [local go_sem] max2_int min2_int max_two min_two max_three min_three max_four min_four xq_geq xq_leq xq_gtr   -- for this text's walks alone
set_option linter.unusedVariables false
set_option linter.unusedSimpArgs false

-- NOT PRINTED: function 80 (api_Row_string)

/-! ### rows_Value: function 45 -/
def rows_Value.f (l0 : List (S69)) (a1 : ByteArray) : Option (ByteArray × Bool) := (rows_place.f l0 a1).bind fun bt101 => (if bt101.2 = true then (if 0 ≤ bt101.1 then (if bt101.1 < (l0.length : Int) then (some ((rd_T69 l0 bt101.1).f1, true)) else (none)) else (none)) else (some ((⟨#[]⟩ : ByteArray), false)))
set_option maxHeartbeats 8000000 in
set_option maxRecDepth 100000 in
theorem rows_Value.calls (A0 : Option Addr) (c0 : Nat) (l0 : List (S69)) (a1 : ByteArray) (r1 : ByteArray) (r2 : Bool) (w : World) (hr0 : Kd.C k69 w A0 l0.length l0) (hc0 : l0.length ≤ c0) (h : rows_Value.f l0 a1 = some (r1, r2)) :
    Calls Try.prog 45 #[.slice A0 l0.length c0, .string a1] w fun e w' => e = .returned (.tuple #[.string r1, .bool r2]) ∧ Below w.heap.size w w' := by
  have HR0 := Aside0.mk hr0
  have HC0 := Aside0.mk hc0
  clear hr0 hc0
  have HB := Aside0.mk (Below.refl w.heap.size w)
  have H : ((rows_place.f l0 a1).bind fun bt101 => (if bt101.2 = true then (if 0 ≤ bt101.1 then (if bt101.1 < (l0.length : Int) then (some ((rd_T69 l0 bt101.1).f1, true)) else (none)) else (none)) else (some ((⟨#[]⟩ : ByteArray), false)))) = some (r1, r2) := h
  clear h
  replace H := Option.bind_eq_some_iff.mp H
  obtain ⟨⟨t101, t102⟩, A30, H⟩ := H
  replace H : (if t102 = true then (if 0 ≤ t101 then (if t101 < (l0.length : Int) then (some ((rd_T69 l0 t101).f1, true)) else (none)) else (none)) else (some ((⟨#[]⟩ : ByteArray), false))) = some (r1, r2) := H
  have A3 := Aside0.mk A30
  clear A30
  by_cases c4 : t102 = true
  · subst c4
    have H1 : (if 0 ≤ t101 then (if t101 < (l0.length : Int) then (some ((rd_T69 l0 t101).f1, true)) else (none)) else (none)) = some (r1, r2) := by rw [if_pos rfl] at H; exact H
    clear H
    have H := H1
    clear H1
    by_cases c5 : 0 ≤ t101
    · rw [if_pos c5] at H
      have c5b0 : decide (0 ≤ t101) = true := decide_eq_true c5
      clear c5
      by_cases c6 : t101 < (l0.length : Int)
      · rw [if_pos c6] at H
        have c6b0 : decide (t101 < (l0.length : Int)) = true := decide_eq_true c6
        clear c6
        simp only [Option.some.injEq, Prod.mk.injEq] at H
        obtain ⟨rfl, rfl⟩ := H
        go_enter Try.func45, Try.ntmps45
        go_wp2_with (first | ((with_reducible refine gate_callee (f := 66) rfl ?_); refine goesL_ (some 11) rfl rfl Try.func66 (by kernel_rfl) rfl #[.slice A0 l0.length c0, .string a1] rfl (by (try simp only [List.map_toArray, List.map_cons, List.map_nil]); first | done | rfl | (simp only [List.length_drop, List.length_take]; rfl)) ?_; (with_reducible refine (rows_place.calls _ _ l0 a1 t101 true _ ?side1 ?side2 A3.out).mono ?_); (case side1 => repeat (first | exact HR0.out | (with_reducible refine Kd.C_alloc ?_ _) | (with_reducible refine Kd.C_drewN ?_ _) | (with_reducible refine Kd.C_drew ?_))); (case side2 => exact HC0.out); rintro e w7 ⟨rfl, hb⟩; refine ⟨_, rfl, ?_⟩; have n0_ := Aside0.mk (below_step (by repeat (first | (with_reducible first | exact HB.out | apply below_alloc | apply pw_below_drewN | apply below_drew1) | exact HB.out)) hb); clear HB; have HB := n0_; clear n0_; (try clear hb); (try clear hb2); (try clear hk); (try clear hi); have p103 : 0 ≤ (t101 : Int) := of_decide_eq_true (by first | (with_reducible assumption) | assumption); have q103 : t101 < (l0.length : Int) := of_decide_eq_true (by first | (with_reducible assumption) | assumption); obtain ⟨ad103, e103, hx103_0, hx103_1⟩ := at_T69 HR0.out t101 p103 q103; cases e103; replace hx103_0 := (HB.out.cell (World.block_lt_of_cell? w _ hx103_0)).trans hx103_0; replace hx103_1 := (HB.out.cell (World.block_lt_of_cell? w _ hx103_1)).trans hx103_1; replace p103 := eq_true p103; replace q103 := eq_true q103))
        go_ret2
        exact ⟨by first | rfl | (simp [errW_none, errW_some] <;> rfl) | (simp [*, errW_none, errW_some] <;> rfl), by repeat (first | (with_reducible first | exact HB.out | apply below_alloc | apply pw_below_drewN | apply below_drew1) | exact HB.out)⟩
      · rw [if_neg c6] at H
        exact absurd H (by simp)
    · rw [if_neg c5] at H
      exact absurd H (by simp)
  · replace c4 := Bool.eq_false_iff.mpr c4
    subst c4
    have H1 : (some ((⟨#[]⟩ : ByteArray), false)) = some (r1, r2) := by rw [if_neg (show ¬ (false = true) by decide)] at H; exact H
    clear H
    have H := H1
    clear H1
    simp only [Option.some.injEq, Prod.mk.injEq] at H
    obtain ⟨rfl, rfl⟩ := H
    go_enter Try.func45, Try.ntmps45
    go_wp2_with (first | ((with_reducible refine gate_callee (f := 66) rfl ?_); refine goesL_ (some 11) rfl rfl Try.func66 (by kernel_rfl) rfl #[.slice A0 l0.length c0, .string a1] rfl (by (try simp only [List.map_toArray, List.map_cons, List.map_nil]); first | done | rfl | (simp only [List.length_drop, List.length_take]; rfl)) ?_; (with_reducible refine (rows_place.calls _ _ l0 a1 t101 false _ ?side1 ?side2 A3.out).mono ?_); (case side1 => repeat (first | exact HR0.out | (with_reducible refine Kd.C_alloc ?_ _) | (with_reducible refine Kd.C_drewN ?_ _) | (with_reducible refine Kd.C_drew ?_))); (case side2 => exact HC0.out); rintro e w8 ⟨rfl, hb⟩; refine ⟨_, rfl, ?_⟩; have n0_ := Aside0.mk (below_step (by repeat (first | (with_reducible first | exact HB.out | apply below_alloc | apply pw_below_drewN | apply below_drew1) | exact HB.out)) hb); clear HB; have HB := n0_; clear n0_; (try clear hb); (try clear hb2); (try clear hk); (try clear hi)))
    go_ret2
    exact ⟨by first | rfl | (simp [errW_none, errW_some] <;> rfl) | (simp [*, errW_none, errW_some] <;> rfl), by repeat (first | (with_reducible first | exact HB.out | apply below_alloc | apply pw_below_drewN | apply below_drew1) | exact HB.out)⟩

/-! ### rows_Find: function 20 -/
def rows_Find.f (k : Nat) (l0 : List (S69)) (a1 : ByteArray) : Option (ByteArray × Int) := (rows_Check.f k l0).bind fun t104 => (if t104 = 0 then ((rows_Value.f l0 a1).bind fun bt105 => (if bt105.2 = true then (some (bt105.1, 0)) else (some ((⟨#[]⟩ : ByteArray), 8)))) else (some ((⟨#[]⟩ : ByteArray), t104)))
theorem rows_Find.mono : ∀ a0 a1 k, LeO (rows_Find.f k a0 a1) (rows_Find.f (k + 1) a0 a1) := by
  intro a0 a1 k
  unfold rows_Find.f
  repeat' first
      | (with_reducible exact rows_Check.mono _ _)
      | (with_reducible exact LeO.refl _)
      | (with_reducible exact LeO.none _)
      | (with_reducible refine LeO.ite ?_ ?_)
      | (with_reducible refine LeO.bind ?_ (fun _ => ?_))
      | exact rows_Check.mono _ _
      | exact LeO.none _
      | refine LeO.ite ?_ ?_
      | refine LeO.bind ?_ (fun _ => ?_)
set_option maxHeartbeats 8000000 in
set_option maxRecDepth 100000 in
theorem rows_Find.calls (k : Nat) (A0 : Option Addr) (c0 : Nat) (l0 : List (S69)) (a1 : ByteArray) (r1 : ByteArray) (r2 : Int) (w : World) (hr0 : Kd.C k69 w A0 l0.length l0) (hc0 : l0.length ≤ c0) (h : rows_Find.f k l0 a1 = some (r1, r2)) :
    Calls Try.prog 20 #[.slice A0 l0.length c0, .string a1] w fun e w' => e = .returned (.tuple #[.string r1, .int .i64 r2]) ∧ Below w.heap.size w w' := by
  have HR0 := Aside0.mk hr0
  have HC0 := Aside0.mk hc0
  clear hr0 hc0
  have HB := Aside0.mk (Below.refl w.heap.size w)
  have H : ((rows_Check.f k l0).bind fun t104 => (if t104 = 0 then ((rows_Value.f l0 a1).bind fun bt105 => (if bt105.2 = true then (some (bt105.1, 0)) else (some ((⟨#[]⟩ : ByteArray), 8)))) else (some ((⟨#[]⟩ : ByteArray), t104)))) = some (r1, r2) := h
  clear h
  replace H := Option.bind_eq_some_iff.mp H
  obtain ⟨t104, A30, H⟩ := H
  replace H : (if t104 = 0 then ((rows_Value.f l0 a1).bind fun bt105 => (if bt105.2 = true then (some (bt105.1, 0)) else (some ((⟨#[]⟩ : ByteArray), 8)))) else (some ((⟨#[]⟩ : ByteArray), t104))) = some (r1, r2) := H
  have A3 := Aside0.mk A30
  clear A30
  by_cases c4 : t104 = 0
  · rw [if_pos c4] at H
    have c4b0 : (t104 == 0) = true := beq_iff_eq.mpr c4
    have c4b1 : (t104 != 0) = false := bne_eq_false_iff_eq.mpr c4
    clear c4
    replace H := Option.bind_eq_some_iff.mp H
    obtain ⟨⟨t105, t106⟩, A50, H⟩ := H
    replace H : (if t106 = true then (some (t105, 0)) else (some ((⟨#[]⟩ : ByteArray), 8))) = some (r1, r2) := H
    have A5 := Aside0.mk A50
    clear A50
    by_cases c6 : t106 = true
    · subst c6
      have H1 : (some (t105, 0)) = some (r1, r2) := by rw [if_pos rfl] at H; exact H
      clear H
      have H := H1
      clear H1
      simp only [Option.some.injEq, Prod.mk.injEq] at H
      obtain ⟨rfl, rfl⟩ := H
      go_enter Try.func20, Try.ntmps20
      go_wp2_with (first | ((with_reducible refine gate_callee (f := 18) rfl ?_); refine goesL_ (some 10) rfl rfl Try.func18 (by kernel_rfl) rfl #[.slice A0 l0.length c0] rfl (by (try simp only [List.map_toArray, List.map_cons, List.map_nil]); first | done | rfl | (simp only [List.length_drop, List.length_take]; rfl)) ?_; (with_reducible refine (rows_Check.calls k _ _ l0 t104 _ ?side1 ?side2 A3.out).mono ?_); (case side1 => repeat (first | exact HR0.out | (with_reducible refine Kd.C_alloc ?_ _) | (with_reducible refine Kd.C_drewN ?_ _) | (with_reducible refine Kd.C_drew ?_))); (case side2 => exact HC0.out); rintro e w7 ⟨rfl, hb⟩; refine ⟨_, rfl, ?_⟩; have n0_ := Aside0.mk (below_step (by repeat (first | (with_reducible first | exact HB.out | apply below_alloc | apply pw_below_drewN | apply below_drew1) | exact HB.out)) hb); clear HB; have HB := n0_; clear n0_; (try clear hb); (try clear hb2); (try clear hk); (try clear hi)) | ((with_reducible refine gate_callee (f := 45) rfl ?_); refine goesL_ (some 17) rfl rfl Try.func45 (by kernel_rfl) rfl #[.slice A0 l0.length c0, .string a1] rfl (by (try simp only [List.map_toArray, List.map_cons, List.map_nil]); first | done | rfl | (simp only [List.length_drop, List.length_take]; rfl)) ?_; (with_reducible refine (rows_Value.calls _ _ l0 a1 t105 true _ ?side1 ?side2 A5.out).mono ?_); (case side1 => repeat (first | exact (Kd.C_below HR0.out HB.out) | (with_reducible refine Kd.C_alloc ?_ _) | (with_reducible refine Kd.C_drewN ?_ _) | (with_reducible refine Kd.C_drew ?_))); (case side2 => exact HC0.out); rintro e w8 ⟨rfl, hb⟩; refine ⟨_, rfl, ?_⟩; have n0_ := Aside0.mk (below_step (by repeat (first | (with_reducible first | exact HB.out | apply below_alloc | apply pw_below_drewN | apply below_drew1) | exact HB.out)) hb); clear HB; have HB := n0_; clear n0_; (try clear hb); (try clear hb2); (try clear hk); (try clear hi)))
      go_ret2
      exact ⟨by first | rfl | (simp [errW_none, errW_some] <;> rfl) | (simp [*, errW_none, errW_some] <;> rfl), by repeat (first | (with_reducible first | exact HB.out | apply below_alloc | apply pw_below_drewN | apply below_drew1) | exact HB.out)⟩
    · replace c6 := Bool.eq_false_iff.mpr c6
      subst c6
      have H1 : (some ((⟨#[]⟩ : ByteArray), 8)) = some (r1, r2) := by rw [if_neg (show ¬ (false = true) by decide)] at H; exact H
      clear H
      have H := H1
      clear H1
      simp only [Option.some.injEq, Prod.mk.injEq] at H
      obtain ⟨rfl, rfl⟩ := H
      go_enter Try.func20, Try.ntmps20
      go_wp2_with (first | ((with_reducible refine gate_callee (f := 18) rfl ?_); refine goesL_ (some 10) rfl rfl Try.func18 (by kernel_rfl) rfl #[.slice A0 l0.length c0] rfl (by (try simp only [List.map_toArray, List.map_cons, List.map_nil]); first | done | rfl | (simp only [List.length_drop, List.length_take]; rfl)) ?_; (with_reducible refine (rows_Check.calls k _ _ l0 t104 _ ?side1 ?side2 A3.out).mono ?_); (case side1 => repeat (first | exact HR0.out | (with_reducible refine Kd.C_alloc ?_ _) | (with_reducible refine Kd.C_drewN ?_ _) | (with_reducible refine Kd.C_drew ?_))); (case side2 => exact HC0.out); rintro e w9 ⟨rfl, hb⟩; refine ⟨_, rfl, ?_⟩; have n0_ := Aside0.mk (below_step (by repeat (first | (with_reducible first | exact HB.out | apply below_alloc | apply pw_below_drewN | apply below_drew1) | exact HB.out)) hb); clear HB; have HB := n0_; clear n0_; (try clear hb); (try clear hb2); (try clear hk); (try clear hi)) | ((with_reducible refine gate_callee (f := 45) rfl ?_); refine goesL_ (some 17) rfl rfl Try.func45 (by kernel_rfl) rfl #[.slice A0 l0.length c0, .string a1] rfl (by (try simp only [List.map_toArray, List.map_cons, List.map_nil]); first | done | rfl | (simp only [List.length_drop, List.length_take]; rfl)) ?_; (with_reducible refine (rows_Value.calls _ _ l0 a1 t105 false _ ?side1 ?side2 A5.out).mono ?_); (case side1 => repeat (first | exact (Kd.C_below HR0.out HB.out) | (with_reducible refine Kd.C_alloc ?_ _) | (with_reducible refine Kd.C_drewN ?_ _) | (with_reducible refine Kd.C_drew ?_))); (case side2 => exact HC0.out); rintro e w10 ⟨rfl, hb⟩; refine ⟨_, rfl, ?_⟩; have n0_ := Aside0.mk (below_step (by repeat (first | (with_reducible first | exact HB.out | apply below_alloc | apply pw_below_drewN | apply below_drew1) | exact HB.out)) hb); clear HB; have HB := n0_; clear n0_; (try clear hb); (try clear hb2); (try clear hk); (try clear hi)))
      go_ret2
      exact ⟨by first | rfl | (simp [errW_none, errW_some] <;> rfl) | (simp [*, errW_none, errW_some] <;> rfl), by repeat (first | (with_reducible first | exact HB.out | apply below_alloc | apply pw_below_drewN | apply below_drew1) | exact HB.out)⟩
  · rw [if_neg c4] at H
    have c4b0 : (t104 == 0) = false := beq_eq_false_iff_ne.mpr c4
    have c4b1 : (t104 != 0) = true := bne_iff_ne.mpr c4
    simp only [Option.some.injEq, Prod.mk.injEq] at H
    obtain ⟨rfl, rfl⟩ := H
    go_enter Try.func20, Try.ntmps20
    go_wp2_with (first | ((with_reducible refine gate_callee (f := 18) rfl ?_); refine goesL_ (some 10) rfl rfl Try.func18 (by kernel_rfl) rfl #[.slice A0 l0.length c0] rfl (by (try simp only [List.map_toArray, List.map_cons, List.map_nil]); first | done | rfl | (simp only [List.length_drop, List.length_take]; rfl)) ?_; (with_reducible refine (rows_Check.calls k _ _ l0 t104 _ ?side1 ?side2 A3.out).mono ?_); (case side1 => repeat (first | exact HR0.out | (with_reducible refine Kd.C_alloc ?_ _) | (with_reducible refine Kd.C_drewN ?_ _) | (with_reducible refine Kd.C_drew ?_))); (case side2 => exact HC0.out); rintro e w11 ⟨rfl, hb⟩; refine ⟨_, rfl, ?_⟩; have n0_ := Aside0.mk (below_step (by repeat (first | (with_reducible first | exact HB.out | apply below_alloc | apply pw_below_drewN | apply below_drew1) | exact HB.out)) hb); clear HB; have HB := n0_; clear n0_; (try clear hb); (try clear hb2); (try clear hk); (try clear hi)))
    go_ret2
    exact ⟨by first | rfl | (simp [errW_none, errW_some] <;> rfl) | (simp [*, errW_none, errW_some] <;> rfl), by repeat (first | (with_reducible first | exact HB.out | apply below_alloc | apply pw_below_drewN | apply below_drew1) | exact HB.out)⟩

/-! ### bagnalllaw_RowsFinds: function 5 -/
def bagnalllaw_RowsFinds.f (k : Nat) (l0 : List (S69)) (a1 : ByteArray) : Option (Bool) := (rows_Find.f k l0 a1).bind fun bt107 => ((bagnallref_RowsFind.f k l0 a1).bind fun bt109 => (if bt107.1.toList = bt109.1.toList then (some (bt107.2 == bt109.2)) else (some false)))
theorem bagnalllaw_RowsFinds.mono : ∀ a0 a1 k, LeO (bagnalllaw_RowsFinds.f k a0 a1) (bagnalllaw_RowsFinds.f (k + 1) a0 a1) := by
  intro a0 a1 k
  unfold bagnalllaw_RowsFinds.f
  repeat' first
      | (with_reducible exact bagnallref_RowsFind.mono _ _ _)
      | (with_reducible exact rows_Find.mono _ _ _)
      | (with_reducible exact LeO.refl _)
      | (with_reducible exact LeO.none _)
      | (with_reducible refine LeO.ite ?_ ?_)
      | (with_reducible refine LeO.bind ?_ (fun _ => ?_))
      | exact bagnallref_RowsFind.mono _ _ _
      | exact rows_Find.mono _ _ _
      | exact LeO.none _
      | refine LeO.ite ?_ ?_
      | refine LeO.bind ?_ (fun _ => ?_)
set_option maxHeartbeats 8000000 in
set_option maxRecDepth 100000 in
theorem bagnalllaw_RowsFinds.calls (k : Nat) (A0 : Option Addr) (c0 : Nat) (l0 : List (S69)) (a1 : ByteArray) (r : Bool) (w : World) (hr0 : Kd.C k69 w A0 l0.length l0) (hc0 : l0.length ≤ c0) (h : bagnalllaw_RowsFinds.f k l0 a1 = some r) :
    Calls Try.prog 5 #[.slice A0 l0.length c0, .string a1] w fun e w' => e = .returned (.bool r) ∧ Below w.heap.size w w' := by
  have HR0 := Aside0.mk hr0
  have HC0 := Aside0.mk hc0
  clear hr0 hc0
  have HB := Aside0.mk (Below.refl w.heap.size w)
  have H : ((rows_Find.f k l0 a1).bind fun bt107 => ((bagnallref_RowsFind.f k l0 a1).bind fun bt109 => (if bt107.1.toList = bt109.1.toList then (some (bt107.2 == bt109.2)) else (some false)))) = some r := h
  clear h
  replace H := Option.bind_eq_some_iff.mp H
  obtain ⟨⟨t107, t108⟩, A30, H⟩ := H
  replace H : ((bagnallref_RowsFind.f k l0 a1).bind fun bt109 => (if t107.toList = bt109.1.toList then (some (t108 == bt109.2)) else (some false))) = some r := H
  have A3 := Aside0.mk A30
  clear A30
  replace H := Option.bind_eq_some_iff.mp H
  obtain ⟨⟨t109, t110⟩, A40, H⟩ := H
  replace H : (if t107.toList = t109.toList then (some (t108 == t110)) else (some false)) = some r := H
  have A4 := Aside0.mk A40
  clear A40
  by_cases c5 : t107.toList = t109.toList
  · rw [if_pos c5] at H
    have c5b0 : (t107.toList == t109.toList) = true := beq_iff_eq.mpr c5
    have c5b1 : (t107.toList != t109.toList) = false := bne_eq_false_iff_eq.mpr c5
    clear c5
    obtain rfl := Option.some.inj H
    go_enter Try.func5, Try.ntmps5
    go_wp2_with (first | ((with_reducible refine gate_callee (f := 20) rfl ?_); refine goesL_ (some 12) rfl rfl Try.func20 (by kernel_rfl) rfl #[.slice A0 l0.length c0, .string a1] rfl (by (try simp only [List.map_toArray, List.map_cons, List.map_nil]); first | done | rfl | (simp only [List.length_drop, List.length_take]; rfl)) ?_; (with_reducible refine (rows_Find.calls k _ _ l0 a1 t107 t108 _ ?side1 ?side2 A3.out).mono ?_); (case side1 => repeat (first | exact HR0.out | (with_reducible refine Kd.C_alloc ?_ _) | (with_reducible refine Kd.C_drewN ?_ _) | (with_reducible refine Kd.C_drew ?_))); (case side2 => exact HC0.out); rintro e w6 ⟨rfl, hb⟩; refine ⟨_, rfl, ?_⟩; have n0_ := Aside0.mk (below_step (by repeat (first | (with_reducible first | exact HB.out | apply below_alloc | apply pw_below_drewN | apply below_drew1) | exact HB.out)) hb); clear HB; have HB := n0_; clear n0_; (try clear hb); (try clear hb2); (try clear hk); (try clear hi)) | ((with_reducible refine gate_callee (f := 21) rfl ?_); refine goesL_ (some 18) rfl rfl Try.func21 (by kernel_rfl) rfl #[.slice A0 l0.length c0, .string a1] rfl (by (try simp only [List.map_toArray, List.map_cons, List.map_nil]); first | done | rfl | (simp only [List.length_drop, List.length_take]; rfl)) ?_; (with_reducible refine (bagnallref_RowsFind.calls k _ _ l0 a1 t109 t110 _ ?side1 ?side2 A4.out).mono ?_); (case side1 => repeat (first | exact (Kd.C_below HR0.out HB.out) | (with_reducible refine Kd.C_alloc ?_ _) | (with_reducible refine Kd.C_drewN ?_ _) | (with_reducible refine Kd.C_drew ?_))); (case side2 => exact HC0.out); rintro e w7 ⟨rfl, hb⟩; refine ⟨_, rfl, ?_⟩; have n0_ := Aside0.mk (below_step (by repeat (first | (with_reducible first | exact HB.out | apply below_alloc | apply pw_below_drewN | apply below_drew1) | exact HB.out)) hb); clear HB; have HB := n0_; clear n0_; (try clear hb); (try clear hb2); (try clear hk); (try clear hi)))
    go_ret
    exact ⟨by first | rfl | (simp [errW_none, errW_some] <;> rfl) | (simp [*, errW_none, errW_some] <;> rfl), by repeat (first | (with_reducible first | exact HB.out | apply below_alloc | apply pw_below_drewN | apply below_drew1) | exact HB.out)⟩
  · rw [if_neg c5] at H
    have c5b0 : (t107.toList == t109.toList) = false := beq_eq_false_iff_ne.mpr c5
    have c5b1 : (t107.toList != t109.toList) = true := bne_iff_ne.mpr c5
    obtain rfl := Option.some.inj H
    go_enter Try.func5, Try.ntmps5
    go_wp2_with (first | ((with_reducible refine gate_callee (f := 20) rfl ?_); refine goesL_ (some 12) rfl rfl Try.func20 (by kernel_rfl) rfl #[.slice A0 l0.length c0, .string a1] rfl (by (try simp only [List.map_toArray, List.map_cons, List.map_nil]); first | done | rfl | (simp only [List.length_drop, List.length_take]; rfl)) ?_; (with_reducible refine (rows_Find.calls k _ _ l0 a1 t107 t108 _ ?side1 ?side2 A3.out).mono ?_); (case side1 => repeat (first | exact HR0.out | (with_reducible refine Kd.C_alloc ?_ _) | (with_reducible refine Kd.C_drewN ?_ _) | (with_reducible refine Kd.C_drew ?_))); (case side2 => exact HC0.out); rintro e w8 ⟨rfl, hb⟩; refine ⟨_, rfl, ?_⟩; have n0_ := Aside0.mk (below_step (by repeat (first | (with_reducible first | exact HB.out | apply below_alloc | apply pw_below_drewN | apply below_drew1) | exact HB.out)) hb); clear HB; have HB := n0_; clear n0_; (try clear hb); (try clear hb2); (try clear hk); (try clear hi)) | ((with_reducible refine gate_callee (f := 21) rfl ?_); refine goesL_ (some 18) rfl rfl Try.func21 (by kernel_rfl) rfl #[.slice A0 l0.length c0, .string a1] rfl (by (try simp only [List.map_toArray, List.map_cons, List.map_nil]); first | done | rfl | (simp only [List.length_drop, List.length_take]; rfl)) ?_; (with_reducible refine (bagnallref_RowsFind.calls k _ _ l0 a1 t109 t110 _ ?side1 ?side2 A4.out).mono ?_); (case side1 => repeat (first | exact (Kd.C_below HR0.out HB.out) | (with_reducible refine Kd.C_alloc ?_ _) | (with_reducible refine Kd.C_drewN ?_ _) | (with_reducible refine Kd.C_drew ?_))); (case side2 => exact HC0.out); rintro e w9 ⟨rfl, hb⟩; refine ⟨_, rfl, ?_⟩; have n0_ := Aside0.mk (below_step (by repeat (first | (with_reducible first | exact HB.out | apply below_alloc | apply pw_below_drewN | apply below_drew1) | exact HB.out)) hb); clear HB; have HB := n0_; clear n0_; (try clear hb); (try clear hb2); (try clear hk); (try clear hi)))
    go_ret
    exact ⟨by first | rfl | (simp [errW_none, errW_some] <;> rfl) | (simp [*, errW_none, errW_some] <;> rfl), by repeat (first | (with_reducible first | exact HB.out | apply below_alloc | apply pw_below_drewN | apply below_drew1) | exact HB.out)⟩

end Go.Proofs.Ytnjidfgjldkkcaa.Q
/- rows.Find answers as the reference does, for every table and every key; no condition. -/
namespace Go.Proofs.Ytnjidfgjldkkcaa.Pure
open Go.RowKit Go.Proofs.Ytnjidfgjldkkcaa.Q Go.Proofs.YtnjidfgjldkkcaaW.PrintWords Go.Proofs.Ytnjidfgjldkkcaa.Plain

/-- The first row with the key. -/
def seek (k : ByteArray) : List S69 → ByteArray × Int
  | [] => ((⟨#[]⟩ : ByteArray), 8)
  | r :: t => if r.f0 = k then (r.f1, 0) else seek k t
theorem seek_ev (l : List S69) (k : ByteArray) (hl : l.length ≤ 40) : ∀ (d i : Nat), i + d = l.length → Ev (fun n => bagnallref_RowsFind.l0 n k l (l.length : Int) (i : Int)) (seek k (l.drop i))
  | 0, i, hi => by
    rw [List.drop_of_length_le (by omega)]
    exact Ev.step (fun k => rfl) (Ev.neg (by omega) (Ev.now _))
  | d + 1, i, hi => by
    have hlt : i < l.length := by omega
    have e2 : wrap64 ((i : Int) + 1) = ((i + 1 : Nat) : Int) := wrap_succ (by omega)
    rw [List.drop_eq_getElem_cons hlt]
    refine Ev.step (fun k => rfl) (Ev.pos (by omega) (Ev.pos (by omega) (Ev.pos (by omega) ?_)))
    rw [rd69 hlt, e2]
    unfold seek
    by_cases h : l[i].f0 = k
    · rw [if_pos h]; exact Ev.pos (toList_inj.2 h) (Ev.now _)
    · rw [if_neg h]; exact Ev.neg (fun e => h (toList_inj.1 e)) (seek_ev l k hl d (i + 1) (by omega))
theorem seek_none (k : ByteArray) : ∀ (l : List S69), (∀ r ∈ l, r.f0 ≠ k) → seek k l = ((⟨#[]⟩ : ByteArray), 8)
  | [], _ => rfl
  | r :: t, h => by unfold seek; rw [if_neg (h r (by simp)), seek_none k t (fun x hx => h x (by simp [hx]))]
theorem seek_at (k : ByteArray) : ∀ (l : List S69) (i : Nat) (h : i < l.length), Asc l → l[i].f0 = k → seek k l = (l[i].f1, 0)
  | r :: t, 0, h, _, e => by unfold seek; exact if_pos e
  | r :: t, i + 1, h, ha, e => by
    have h' : i < t.length := by simpa using h
    have e' : t[i].f0 = k := e
    have hr := (List.pairwise_cons.1 ha).1 _ (List.getElem_mem h')
    unfold seek
    rw [if_neg (fun e2 => by rw [e', ← e2, kl_irr] at hr; cases hr)]
    exact seek_at k t i h' (List.Pairwise.of_cons ha) e'

theorem find_ev (l : List S69) (k : ByteArray) : ∃ q, Ev (fun n => rows_Find.f n l k) q ∧ Ev (fun n => bagnallref_RowsFind.f n l k) q := by
  unfold rows_Find.f bagnallref_RowsFind.f
  by_cases h0 : ¬ rowsErr l = 0
  · exact ⟨((⟨#[]⟩ : ByteArray), rowsErr l), Ev.bind (check_ev l) (Ev.neg h0 (Ev.now _)), Ev.bind (fault_ev l) (Ev.neg h0 (Ev.now _))⟩
  replace h0 : rowsErr l = 0 := Decidable.not_not.1 h0
  obtain ⟨hl, _, ha⟩ := rowsErr_zero h0
  have hs := seek_ev l k hl l.length 0 (by omega)
  rw [List.drop_zero] at hs
  refine ⟨seek k l, Ev.bind (check_ev l) (Ev.pos h0 ?_), Ev.bind (fault_ev l) (Ev.pos h0 hs)⟩
  have hp : rows_place.f l k = some ((cut l k : Int), placeB l k) := by
    unfold rows_place.f
    rw [if_pos (by omega), placeI_cut ha]
  unfold rows_Value.f
  cases hb : placeB l k
  · have hn : ∀ r ∈ l, r.f0 ≠ k := by
      intro r hr e
      obtain ⟨i, hi, rfl⟩ := List.mem_iff_getElem.1 hr
      have hc := cut_at ha hi
      rw [e] at hc
      have := (placeB_iff ha k).2 ⟨by omega, by simp only [hc]; exact e⟩
      rw [hb] at this
      cases this
    rw [seek_none k l hn]
    refine Ev.bind (Ev.lift (r := ((⟨#[]⟩ : ByteArray), false)) ?_) (Ev.neg (by simp) (Ev.now _))
    rw [hp, hb, Option.bind_some, if_neg (by simp)]
  · obtain ⟨hc, he⟩ := (placeB_iff ha k).1 hb
    rw [seek_at k l _ hc ha he]
    refine Ev.bind (Ev.lift (r := (l[cut l k].f1, true)) ?_) (Ev.pos rfl (Ev.now _))
    rw [hp, hb, Option.bind_some, if_pos rfl, if_pos (by omega), if_pos (by omega), rd69 hc]

theorem walkRowsFinds (W : World) (l : List S69) (A : Option Addr) (c : Nat) (hc : l.length ≤ c) (C : Kd.C k69 W A l.length l)
    (_ : l.length ≤ 9223372036854775807 ∧ l.length * Try.prog.bytesOf 69 ≤ 140737488351232 ∧ ∀ x ∈ l, x.f0.size ≤ 140737488351232 ∧ x.f1.size ≤ 140737488351232) (k : ByteArray) (_ : k.size ≤ 140737488351232) :
    Calls Try.prog 5 #[.slice A l.length c, .string k] W fun e w' => e = .returned (.bool true) ∧ Below W.heap.size W w' := by
  obtain ⟨n, h⟩ : ∃ n, bagnalllaw_RowsFinds.f n l k = some true := Ev.rounds (by
    unfold bagnalllaw_RowsFinds.f
    obtain ⟨q, h1, h2⟩ := find_ev l k
    exact Ev.bind h1 (Ev.bind h2 (Ev.pos rfl (Ev.to (Ev.now _) (by simp)))))
  exact bagnalllaw_RowsFinds.calls n A c l k true W C hc h
end Go.Proofs.Ytnjidfgjldkkcaa.Pure
/- rows.Value, rows.Beginning at a table that ascends, walked to plain functions. -/
namespace Go.Proofs.Ytnjidfgjldkkcaa.Pure
open Go.RowKit Go.Proofs.Ytnjidfgjldkkcaa.Q Go.Proofs.YtnjidfgjldkkcaaW.PrintWords Go.Proofs.Ytnjidfgjldkkcaa.Plain
def hasB (k : ByteArray) (l : List S69) : Bool := decide ((seek k l).2 = 0)
theorem value_f (l : List S69) (k : ByteArray) (ha : Asc l) (hl : l.length ≤ 40) : rows_Value.f l k = some (if hasB k l = true then ((seek k l).1, true) else ((⟨#[]⟩ : ByteArray), false)) := by
  have hp : rows_place.f l k = some ((cut l k : Int), placeB l k) := by
    unfold rows_place.f
    rw [if_pos (by omega), placeI_cut ha]
  unfold rows_Value.f hasB
  cases hb : placeB l k
  · have hn : ∀ r ∈ l, r.f0 ≠ k := by
      intro r hr e
      obtain ⟨i, hi, rfl⟩ := List.mem_iff_getElem.1 hr
      have hc := cut_at ha hi
      rw [e] at hc
      have := (placeB_iff ha k).2 ⟨by omega, by simp only [hc]; exact e⟩
      rw [hb] at this
      cases this
    rw [seek_none k l hn, hp, hb, Option.bind_some, if_neg (by simp), if_neg (by simp)]
  · obtain ⟨hc, he⟩ := (placeB_iff ha k).1 hb
    rw [seek_at k l _ hc ha he, hp, hb, Option.bind_some, if_pos rfl, if_pos (by omega), if_pos (by omega), rd69 hc, if_pos (by simp)]
theorem value_walk (A : Option Addr) (c : Nat) (l : List S69) (k : ByteArray) (w : World) (hr : Kd.C k69 w A l.length l) (hc : l.length ≤ c) (ha : Asc l) (hl : l.length ≤ 40) :
    Calls Try.prog 45 #[.slice A l.length c, .string k] w fun e w' => e = .returned (.tuple #[.string (if hasB k l = true then (seek k l).1 else (⟨#[]⟩ : ByteArray)), .bool (hasB k l)]) ∧ Below w.heap.size w w' := by
  have h := value_f l k ha hl
  have e : (if hasB k l = true then ((seek k l).1, true) else ((⟨#[]⟩ : ByteArray), false)) = ((if hasB k l = true then (seek k l).1 else (⟨#[]⟩ : ByteArray)), hasB k l) := by
    cases hasB k l <;> rfl
  rw [e] at h
  exact rows_Value.calls A c l k _ _ w hr hc h
def beginF (h : ByteArray) (l : List S69) : List S69 := l.filter fun r => pfx h r.f0
theorem beginning_ev (l : List S69) (h : ByteArray) (hh : h.size ≤ 140737488351232) (ha : Asc l) (hl : l.length ≤ 40) : Ev (fun n => rows_Beginning.f n l h) (beginF h l) := by
  have hp : ∀ k, rows_place.f l k = some ((cut l k : Int), placeB l k) := by
    intro k
    unfold rows_place.f
    rw [if_pos (by omega), placeI_cut ha]
  have hnx := next_nx h h.size (Nat.le_refl _)
  rw [show h.toList.take h.size = h.toList by rw [← len_toList, List.take_length]] at hnx
  have hne := next_ev h hh h.size (Nat.le_refl _)
  rw [head_whole] at hne
  have hsg := begin_seg ha h _ hnx
  generalize strOfNums (Q.raised h (trimLen h h.size)) = n at hne hsg hnx
  have hcl := cut_le l h
  have hc2 := cut_le l n
  have hlo : ¬ n.toList = [] → cut l h ≤ cut l n := by
    intro e
    refine tw_le _ _ l fun x _ hx => ?_
    rcases less_nx _ _ hx with h2 | h2
    · rw [← hnx] at h2; exact absurd h2 e
    · unfold kl; rw [hnx]; exact h2
  have hne' : Ev (fun k => rows_Next.f k h) n := hne
  unfold rows_Beginning.f
  refine Ev.bind (Ev.lift (hp h)) (Ev.bind hne' ?_)
  by_cases e : n.toList = []
  · rw [if_pos e] at hsg
    refine Ev.pos e (Ev.pos (by simp) (Ev.pos (by simp; omega) (Ev.pos (by omega) (Ev.lift ?_))))
    simp only [Int.toNat_natCast]
    rw [hsg]
    unfold api_Row_67.f
    rw [if_pos (Nat.le_trans (List.length_filter_le _ _) (by omega))]
    rfl
  · rw [if_neg e] at hsg
    have := hlo e
    refine Ev.neg e (Ev.bind (Ev.lift (hp n)) (Ev.pos (by simp) (Ev.pos (by simp; omega) (Ev.pos (by simp; omega) (Ev.lift ?_)))))
    simp only [Int.toNat_natCast]
    rw [hsg]
    unfold api_Row_67.f
    rw [if_pos (Nat.le_trans (List.length_filter_le _ _) (by omega))]
    rfl
theorem beginning_walk (A : Option Addr) (c : Nat) (l : List S69) (h : ByteArray) (w : World) (hr : Kd.C k69 w A l.length l) (hc : l.length ≤ c) (ha : Asc l) (hl : l.length ≤ 40) (hh : h.size ≤ 140737488351232) :
    Calls Try.prog 46 #[.slice A l.length c, .string h] w fun e w' => ∃ v0_ : Value, e = .returned (v0_) ∧ Kd.R k69 69 w' w.heap.size (fun _ => True) v0_ (beginF h l) ∧ Below w.heap.size w w' := by
  obtain ⟨n, hn⟩ := (beginning_ev l h hh ha hl).rounds
  exact rows_Beginning.calls n A c l h _ w hr hc hn
theorem refBegin_ev (l : List S69) (h : ByteArray) (hl : l.length ≤ 40) : Ev (fun n => bagnallref_rowsBegin.f n l h) (beginF h l) := by
  have hs := begin_l0 l h hl l.length 0 [] (by omega) (by simp)
  rw [List.drop_zero, List.nil_append] at hs
  exact hs
end Go.Proofs.Ytnjidfgjldkkcaa.Pure
/- store.Store.Do, walked. -/
namespace Go.Proofs.Ytnjidfgjldkkcaa.Q
open Go.RowKit Go.Proofs.YtnjidfgjldkkcaaW.PrintWords Go.Proofs.YtnjidfgjldkkcaaW.PrintLast Go.Proofs.YtnjidfgjldkkcaaW.PrintMore Go.Proofs.Ytnjidfgjldkkcaa.Plain Go.Proofs.Ytnjidfgjldkkcaa.Pure
def getF (k : ByteArray) (t : List S69) : Int × List S69 := if hasB k t = true then (0, [⟨k, (seek k t).1⟩]) else (8, [])
/-- An act upon a store: what it tells; the file; the table. -/
def actF (d : List Int) (t : List S69) (a : S67) : (Int × List S69) × List Int × List S69 :=
  if a.f0 = 1 then (if sfaultF d t a.f1 ≠ 0 then ((sfaultF d t a.f1, []), d, t) else ((0, []), d ++ batchF a.f1, changedF t a.f1))
  else if a.f0 = 2 then (getF a.f2 t, d, t)
  else if a.f0 = 3 then ((0, beginF a.f2 t), d, t)
  else if a.f0 = 4 then ((0, []), batchF t, t)
  else if a.f0 = 5 then (if crashCode d t a.f1 a.f3 ≠ 0 then ((crashCode d t a.f1 a.f3, []), d, t) else if a.f3 < ((batchF a.f1).length : Int) then ((0, []), d, t) else ((0, []), d ++ batchF a.f1, changedF t a.f1))
  else ((3, []), d, t)
theorem crash_zero {d : List Int} {t cs : List S69} {n : Int} (h : crashCode d t cs n = 0) : 0 ≤ n ∧ sfaultF d t cs = 0 := by
  unfold crashCode at h
  by_cases hn : n < 0
  · rw [if_pos hn] at h; cases h
  · rw [if_neg hn] at h; exact ⟨by omega, h⟩
theorem actF_inv {d : List Int} {t : List S69} (h : SInv d t) (a : S67) : SInv (actF d t a).2.1 (actF d t a).2.2 := by
  unfold actF
  by_cases h1 : a.f0 = 1
  · rw [if_pos h1]
    by_cases hf : sfaultF d t a.f1 = 0
    · rw [if_neg (by simp [hf])]; exact h.commit hf
    · rw [if_pos hf]; exact h
  rw [if_neg h1]
  by_cases h2 : a.f0 = 2
  · rw [if_pos h2]; exact h
  rw [if_neg h2]
  by_cases h3 : a.f0 = 3
  · rw [if_pos h3]; exact h
  rw [if_neg h3]
  by_cases h4 : a.f0 = 4
  · rw [if_pos h4]; exact h.pack
  rw [if_neg h4]
  by_cases h5 : a.f0 = 5
  · rw [if_pos h5]
    by_cases hf : crashCode d t a.f1 a.f3 = 0
    · rw [if_neg (by simp [hf])]
      by_cases hn : a.f3 < ((batchF a.f1).length : Int)
      · rw [if_pos hn]; exact h
      · rw [if_neg hn]; exact h.commit (crash_zero hf).2
    · rw [if_pos hf]; exact h
  rw [if_neg h5]; exact h
theorem ModT.set_new {T : List Nat} {B : Nat} {w w1 : World} (h : ModT T B w w1) (k j : Nat) (hk : w.heap.size ≤ k) (u : Value) : ModT T B w (w1.setCell ⟨k, j, none⟩ u) := by
  refine ⟨h.os, h.tape, h.output, by simpa [World.setCell] using h.size, fun i hi => ?_⟩
  rw [Below.heap_setCell w1 _ _ i (by show i ≠ k; omega)]
  exact h.block i hi
/-- How an act ends. -/
def DoPost (base g : Nat) (w : World) (r : (Int × List S69) × List Int × List S69) (e : Ending) (w' : World) : Prop := ∃ rv, e = .returned (.agg #[.int .i64 r.1.1, rv]) ∧ k69.R 69 w' w.heap.size (fun _ => True) rv r.1.2 ∧ StoreAt w' base g r.2.1.length r.2.1 r.2.2 ∧ ModT [95, 5] base w w'
/-- The end of an act: a value is stored into the cell of the result, block h. -/
theorem do_end {base g h : Nat} {w w3 : World} {c : Int} {rv : Value} {rs : List S69} {s : Nat} {d : List Int} {t : List S69} {cs : Array Value} (hh : w3.heap[h]? = some (.cells cs 62 (0, 0))) (hw : w.heap.size ≤ h) (hR : k69.R 69 w3 w.heap.size (fun _ => True) rv rs) (hS : StoreAt w3 base g s d t) (hs : s = d.length) (hm : ModT [95, 5] base w w3) (u v : Value) :
    DoPost base g w ((c, rs), d, t) (.returned (.agg #[.int .i64 c, rv])) ((w3.setCell ⟨h, 0, none⟩ u).setCell ⟨h, 1, none⟩ v) := by
  subst hs
  have hh1 := heap_set1 (j := 0) (u := u) hh
  have m : ModT [62] 0 w3 ((w3.setCell ⟨h, 0, none⟩ u).setCell ⟨h, 1, none⟩ v) := (ModT.set_ hh (by simp) (Nat.zero_le _) _).trans (ModT.set_ hh1 (by simp) (Nat.zero_le _) _)
  exact ⟨rv, rfl, rowsMod hR m (by simp), hS.mod m (by simp) (by simp) (by simp), (hm.set_new h 0 hw u).set_new h 1 hw v⟩
theorem size62 : (Try.prog.info? 62).map (·.size) = some 2 := by kernel_rfl
theorem do_ret {base g h : Nat} {w w3 : World} {c : Int} {rv : Value} {rs : List S69} {s : Nat} {d : List Int} {t : List S69} {u0 v0 : Value} {a : Act} {r : (Int × List S69) × List Int × List S69} (hr : r = ((c, rs), d, t)) (ha : a.tmps.getD 4 undef = .pointer (some ⟨h, 0, none⟩)) (hdf : a.defers = [])
    (hh : w3.heap[h]? = some (.cells #[u0, v0] 62 (0, 0))) (hw : w.heap.size ≤ h) (hR : k69.R 69 w3 w.heap.size (fun _ => True) rv rs) (hS : StoreAt w3 base g s d t) (hs : s = d.length) (hm : ModT [95, 5] base w w3) :
    bodyPost Try.prog Try.f61 (DoPost base g w r) .ret a ((w3.setCell ⟨h, 0, none⟩ (.int .i64 c)).setCell ⟨h, 1, none⟩ rv) := by
  subst hr
  exact bodyPost_ret (results_cell_row (P := Try.prog) rfl a.tmps _ h 62 #[.int .i64 c, rv] (0, 0) _ ha (by rw [heap_set1 (heap_set1 hh)]; rfl) Try.underlying62 rfl size62) hdf (do_end hh hw hR hS hs hm _ _)
set_option maxRecDepth 100000 in
set_option maxHeartbeats 8000000 in
theorem do_walk (base g : Nat) (d : List Int) (t : List S69) (a : S67) (A : Option Addr) (c : Nat) (w : World) (hs : StoreAt w base g d.length d t) (hi : SInv d t) (hC : ∀ W, ModT [95, 5] base w W → Kd.C k69 W A a.f1.length a.f1) (hc : a.f1.length ≤ c) (hk : a.f2.size ≤ 140737488351232) :
    Calls Try.prog 61 #[.pointer (some ⟨g, 0, none⟩), .agg #[.int .i64 a.f0, .slice A a.f1.length c, .string a.f2, .int .i64 a.f3]] w (DoPost base g w (actF d t a)) := by
  obtain ⟨k, cs, key, n⟩ := a
  simp only at hC hc hk ⊢
  obtain ⟨W1, hW1⟩ : ∃ W1, W1 = (w.alloc (.cells #[.int .i64 k, .slice A cs.length c, .string key, .int .i64 n] 67)).alloc (.cells #[.int .i64 0, .slice none 0 0] 62) := ⟨_, rfl⟩
  have HB1 : Below w.heap.size w W1 := hW1 ▸ below_alloc (below_alloc (Below.refl _ _) _) _
  have HS := Aside0.mk (hs.below HB1)
  have HM1 : Aside0 (ModT [95, 5] base w W1) := ⟨ModT.of_below HB1⟩
  have HC := Aside0.mk (fun W (hW : ModT [95, 5] base W1 W) => hC W (HM1.out.trans hW))
  have H0 := Aside0.mk hc
  have hl := hi.len
  have hd := (show d.length ≤ 1200 by obtain ⟨_, _, _, _, h⟩ := hi; exact h)
  have HI := Aside0.mk hi
  have hhr : Aside0 (W1.heap[w.heap.size + 1]? = some (.cells #[.int .i64 0, .slice none 0 0] 62 (0, 0))) := ⟨by rw [hW1, show w.heap.size + 1 = (w.alloc (.cells #[.int .i64 k, .slice A cs.length c, .string key, .int .i64 n] 67)).heap.size by simp]; exact blk_new _ _⟩
  have hha : W1.heap[w.heap.size]? = some (.cells #[.int .i64 k, .slice A cs.length c, .string key, .int .i64 n] 67 (0, 0)) := by rw [hW1]; exact (below_alloc (Below.refl _ _) _).block _ (by simp) |>.trans (blk_new w _)
  have x0 : W1.cell? ⟨w.heap.size, 0, none⟩ = some (.int .i64 k) := by rw [blk_cell hha]; rfl
  have x1 : W1.cell? ⟨w.heap.size, 1, none⟩ = some (.slice A cs.length c) := by rw [blk_cell hha]; rfl
  have x2 : W1.cell? ⟨w.heap.size, 2, none⟩ = some (.string key) := by rw [blk_cell hha]; rfl
  have x3 : W1.cell? ⟨w.heap.size, 3, none⟩ = some (.int .i64 n) := by rw [blk_cell hha]; rfl
  have hsz : w.heap.size ≤ w.heap.size + 1 := by omega
  have HS0 := Aside0.mk hs
  clear hs hC hi hha
  by_cases k1 : k = 1
  · subst k1
    by_cases hf : sfaultF d t cs = 0
    · have e1 : Aside0 (actF d t ⟨1, cs, key, n⟩ = ((0, []), d ++ batchF cs, changedF t cs)) := ⟨by unfold actF; rw [if_pos rfl, if_neg (by simp [hf])]⟩
      have hcall := commit_walk base g d.length d t cs A c W1 HS.out HC.out hc hl hd
      rw [show commitF d.length d t cs = ((d ++ batchF cs).length, d ++ batchF cs, changedF t cs) by unfold commitF; rw [if_neg (by simp [hf])], hf] at hcall
      have Hcall := Aside0.mk hcall
      clear hcall
      subst hW1
      go_enter Try.func61, Try.ntmps61
      go_wp2_with (go_at_call 77; refine Hcall.out.mono ?_; rintro e w3 ⟨rfl, hs3, hm3⟩; have HS3 := Aside0.mk hs3; have HM3 := Aside0.mk (HM1.out.trans hm3); have HH3 := Aside0.mk (hm3.keep hhr.out (by simp)); have z0 : w3.cell? ⟨w.heap.size + 1, 0, none⟩ = some (.int .i64 0) := (by rw [blk_cell HH3.out]; rfl); have z1 : w3.cell? ⟨w.heap.size + 1, 1, none⟩ = some (.slice none 0 0) := (by rw [blk_cell HH3.out]; rfl); have f0 := blk_frozen HH3.out 0; have f1 := blk_frozen HH3.out 1; clear hs3 hm3)
      exact do_ret e1.out rfl rfl HH3.out hsz (Kd.R_nil _ _ _ _ _) HS3.out rfl HM3.out
    · have e1 : Aside0 (actF d t ⟨1, cs, key, n⟩ = ((sfaultF d t cs, []), d, t)) := ⟨by unfold actF; rw [if_pos rfl, if_pos hf]⟩
      have hcall := commit_walk base g d.length d t cs A c W1 HS.out HC.out hc hl hd
      rw [show commitF d.length d t cs = (d.length, d, t) by unfold commitF; rw [if_pos hf]] at hcall
      have Hcall := Aside0.mk hcall
      clear hcall hf
      generalize sfaultF d t cs = f at *
      subst hW1
      go_enter Try.func61, Try.ntmps61
      go_wp2_with (go_at_call 77; refine Hcall.out.mono ?_; rintro e w3 ⟨rfl, hs3, hm3⟩; have HS3 := Aside0.mk hs3; have HM3 := Aside0.mk (HM1.out.trans hm3); have HH3 := Aside0.mk (hm3.keep hhr.out (by simp)); have z0 : w3.cell? ⟨w.heap.size + 1, 0, none⟩ = some (.int .i64 0) := (by rw [blk_cell HH3.out]; rfl); have z1 : w3.cell? ⟨w.heap.size + 1, 1, none⟩ = some (.slice none 0 0) := (by rw [blk_cell HH3.out]; rfl); have f0 := blk_frozen HH3.out 0; have f1 := blk_frozen HH3.out 1; clear hs3 hm3)
      exact do_ret e1.out rfl rfl HH3.out hsz (Kd.R_nil _ _ _ _ _) HS3.out rfl HM3.out
  by_cases k4 : k = 4
  · subst k4
    have e1 : Aside0 (actF d t ⟨4, cs, key, n⟩ = ((0, []), batchF t, t)) := ⟨by unfold actF; rw [if_neg (by simp), if_neg (by simp), if_neg (by simp), if_pos rfl]⟩
    have hcall := pack_walk base g d.length d t W1 HS.out hl (fun r hr => ((HI.out.full r hr).1).2) HI.out.batch
    have Hcall := Aside0.mk hcall
    clear hcall
    subst hW1
    go_enter Try.func61, Try.ntmps61
    go_wp2_with (go_at_call 78; refine Hcall.out.mono ?_; rintro e w3 ⟨rfl, hs3, hm3⟩; have HS3 := Aside0.mk hs3; have HM3 := Aside0.mk (HM1.out.trans hm3); have HH3 := Aside0.mk (hm3.keep hhr.out (by simp)); have z0 : w3.cell? ⟨w.heap.size + 1, 0, none⟩ = some (.int .i64 0) := (by rw [blk_cell HH3.out]; rfl); have z1 : w3.cell? ⟨w.heap.size + 1, 1, none⟩ = some (.slice none 0 0) := (by rw [blk_cell HH3.out]; rfl); have f0 := blk_frozen HH3.out 0; have f1 := blk_frozen HH3.out 1; clear hs3 hm3)
    exact do_ret e1.out rfl rfl HH3.out hsz (Kd.R_nil _ _ _ _ _) HS3.out rfl HM3.out
  by_cases k5 : k = 5
  · subst k5
    by_cases hf : crashCode d t cs n = 0
    · obtain ⟨hn0, hsf⟩ := crash_zero hf
      obtain ⟨m, rfl⟩ : ∃ m : Nat, n = m := ⟨n.toNat, by omega⟩
      have hcm := HI.out.commit hsf
      obtain ⟨-, -, hbl⟩ := sfaultF_ok hsf
      by_cases hm : (m : Int) < ((batchF cs).length : Int)
      · have e1 : Aside0 (actF d t ⟨5, cs, key, (m : Int)⟩ = ((0, []), d, t)) := ⟨by unfold actF; rw [if_neg (by simp), if_neg (by simp), if_neg (by simp), if_neg (by simp), if_pos rfl, if_neg (by simp [hf]), if_pos hm]⟩
        have hfl : fallN d.length m (d ++ batchF cs).length = d.length + m := by unfold fallN; rw [List.length_append]; omega
        have htk : (d ++ batchF cs).take (fallN d.length m (d ++ batchF cs).length) = d ++ (batchF cs).take m := by rw [hfl, List.take_append, List.take_of_length_le (by omega), Nat.add_sub_cancel_left]
        have hcall := crash_good base g d.length d t cs m A c W1 HS.out HC.out hc hl hd hsf hcm.byte t d.length (by rw [htk]; exact HI.out.read hsf m (by omega)) (by rw [htk, List.length_append]; omega)
        rw [htk, List.take_left] at hcall
        have Hcall := Aside0.mk hcall
        clear hcall htk hfl hcm
        subst hW1
        go_enter Try.func61, Try.ntmps61
        go_wp2_with (go_at_call 79; refine Hcall.out.mono ?_; rintro e w3 ⟨rfl, hs3, hm3⟩; have HS3 := Aside0.mk hs3; have HM3 := Aside0.mk (HM1.out.trans hm3); have HH3 := Aside0.mk (hm3.keep hhr.out (by simp)); have z0 : w3.cell? ⟨w.heap.size + 1, 0, none⟩ = some (.int .i64 0) := (by rw [blk_cell HH3.out]; rfl); have z1 : w3.cell? ⟨w.heap.size + 1, 1, none⟩ = some (.slice none 0 0) := (by rw [blk_cell HH3.out]; rfl); have f0 := blk_frozen HH3.out 0; have f1 := blk_frozen HH3.out 1; clear hs3 hm3)
        exact do_ret e1.out rfl rfl HH3.out hsz (Kd.R_nil _ _ _ _ _) HS3.out rfl HM3.out
      · have e1 : Aside0 (actF d t ⟨5, cs, key, (m : Int)⟩ = ((0, []), d ++ batchF cs, changedF t cs)) := ⟨by unfold actF; rw [if_neg (by simp), if_neg (by simp), if_neg (by simp), if_neg (by simp), if_pos rfl, if_neg (by simp [hf]), if_neg hm]⟩
        have hfl : fallN d.length m (d ++ batchF cs).length = (d ++ batchF cs).length := by unfold fallN; rw [List.length_append]; omega
        have htk : (d ++ batchF cs).take (fallN d.length m (d ++ batchF cs).length) = d ++ batchF cs := by rw [hfl, List.take_length]
        have hcall := crash_good base g d.length d t cs m A c W1 HS.out HC.out hc hl hd hsf hcm.byte (changedF t cs) (d ++ batchF cs).length (by rw [htk]; exact hcm.whole) (by rw [htk]; exact Nat.le_refl _)
        rw [htk, List.take_length] at hcall
        have Hcall := Aside0.mk hcall
        clear hcall htk hfl hcm
        subst hW1
        go_enter Try.func61, Try.ntmps61
        go_wp2_with (go_at_call 79; refine Hcall.out.mono ?_; rintro e w3 ⟨rfl, hs3, hm3⟩; have HS3 := Aside0.mk hs3; have HM3 := Aside0.mk (HM1.out.trans hm3); have HH3 := Aside0.mk (hm3.keep hhr.out (by simp)); have z0 : w3.cell? ⟨w.heap.size + 1, 0, none⟩ = some (.int .i64 0) := (by rw [blk_cell HH3.out]; rfl); have z1 : w3.cell? ⟨w.heap.size + 1, 1, none⟩ = some (.slice none 0 0) := (by rw [blk_cell HH3.out]; rfl); have f0 := blk_frozen HH3.out 0; have f1 := blk_frozen HH3.out 1; clear hs3 hm3)
        exact do_ret e1.out rfl rfl HH3.out hsz (Kd.R_nil _ _ _ _ _) HS3.out rfl HM3.out
    · have e1 : Aside0 (actF d t ⟨5, cs, key, n⟩ = ((crashCode d t cs n, []), d, t)) := ⟨by unfold actF; rw [if_neg (by simp), if_neg (by simp), if_neg (by simp), if_neg (by simp), if_pos rfl, if_pos hf]⟩
      have hcall := crash_bad base g d.length d t cs n A c W1 HS.out (HC.out _ (ModT.refl _ _ _)) hc hl hd hf
      have Hcall := Aside0.mk hcall
      clear hcall hf
      generalize crashCode d t cs n = f at *
      subst hW1
      go_enter Try.func61, Try.ntmps61
      go_wp2_with (go_at_call 79; refine Hcall.out.mono ?_; rintro e w3 ⟨rfl, hs3, hm3⟩; have HS3 := Aside0.mk hs3; have HM3 := Aside0.mk (HM1.out.trans hm3); have HH3 := Aside0.mk (hm3.keep hhr.out (by simp)); have z0 : w3.cell? ⟨w.heap.size + 1, 0, none⟩ = some (.int .i64 0) := (by rw [blk_cell HH3.out]; rfl); have z1 : w3.cell? ⟨w.heap.size + 1, 1, none⟩ = some (.slice none 0 0) := (by rw [blk_cell HH3.out]; rfl); have f0 := blk_frozen HH3.out 0; have f1 := blk_frozen HH3.out 1; clear hs3 hm3)
      exact do_ret e1.out rfl rfl HH3.out hsz (Kd.R_nil _ _ _ _ _) HS3.out rfl HM3.out
  by_cases k2 : k = 2
  · subst k2
    obtain ⟨A1, c1, B1, b1, hD1, hR1⟩ := HS.out
    have y2 : W1.cell? ⟨g, 2, none⟩ = some (.slice B1 t.length b1) := by rw [blk_cell hD1.1]; rfl
    have hgl : g < W1.heap.size := blk_lt hD1.1
    have hcap := Aside0.mk (Kd.R_reads' hR1)
    clear hD1 hR1
    have Hcall : Aside0 (∀ W, Below W1.heap.size W1 W → Calls Try.prog 45 #[.slice B1 t.length b1, .string key] W fun e w' => e = .returned (.tuple #[.string (if hasB key t = true then (seek key t).1 else (⟨#[]⟩ : ByteArray)), .bool (hasB key t)]) ∧ Below W.heap.size W w') := ⟨fun W hW => value_walk B1 b1 t key W (Kd.C_below hcap.out.2.2 hW) hcap.out.2.1 HI.out.asc hl⟩
    have hlt : w.heap.size < W1.heap.size := World.block_lt_of_cell? W1 _ x2
    have hS : ∀ w' : World, Below W1.heap.size W1 w' → (w'.cell? ⟨g, 2, none⟩ = some (.slice B1 t.length b1) ∧ w'.cell? ⟨w.heap.size, 2, none⟩ = some (.string key) ∧ Below W1.heap.size W1 w') := fun w' h => ⟨(h.cell hgl).trans y2, (h.cell hlt).trans x2, h⟩
    obtain ⟨v, hv⟩ : ∃ v, Aside0 (v = (seek key t).1) := ⟨_, ⟨rfl⟩⟩
    have e1 : Aside0 (actF d t ⟨2, cs, key, n⟩ = ((if hasB key t = true then (0, [⟨key, v⟩]) else (8, [])), d, t)) := ⟨by unfold actF getF; rw [if_neg (by simp), if_pos rfl, hv.out]⟩
    rw [← hv.out] at Hcall
    clear hv
    have HSb : Aside0 (∀ W, Below W1.heap.size W1 W → StoreAt W base g d.length d t) := ⟨fun W hW => HS.out.below hW⟩
    have HMb : Aside0 (∀ W, Below W1.heap.size W1 W → ModT [95, 5] base w W) := ⟨fun W hW => HM1.out.trans (ModT.of_below hW)⟩
    have HHb : Aside0 (∀ W, Below W1.heap.size W1 W → W.heap[w.heap.size + 1]? = some (.cells #[.int .i64 0, .slice none 0 0] 62 (0, 0))) := ⟨fun W hW => (hW.block _ (blk_lt hhr.out)).trans hhr.out⟩
    have hsz1 := HB1.size
    obtain ⟨bb, hbb⟩ : ∃ bb, bb = hasB key t := ⟨_, rfl⟩
    rw [← hbb] at Hcall e1
    clear hbb
    cases bb <;> simp only [Bool.false_eq_true, ↓reduceIte] at Hcall e1
    · go_enter Try.func61, Try.ntmps61
      go_wp2
      rw [← hW1]
      clear hW1
      go_region_held3 (fun w' => w'.cell? ⟨g, 2, none⟩ = some (.slice B1 t.length b1) ∧ w'.cell? ⟨w.heap.size, 2, none⟩ = some (.string key) ∧ Below W1.heap.size W1 w') (first | assumption | exact hS _ (below_drew (Below.refl _ _))) (first | (go_at_call 45; refine (Hcall.out _ (And.right (And.right (by assumption)))).mono ?_; rintro e w3 ⟨rfl, hb⟩; have hS1 := hS _ (below_step (And.right (And.right (by assumption))) hb); clear hb))
      all_goals
        have hBW := hS1.2.2
        have HH3 := Aside0.mk (HHb.out _ hBW)
        have z0 : w3.cell? ⟨w.heap.size + 1, 0, none⟩ = some (.int .i64 0) := by rw [blk_cell HH3.out]; rfl
        have z1 : w3.cell? ⟨w.heap.size + 1, 1, none⟩ = some (.slice none 0 0) := by rw [blk_cell HH3.out]; rfl
        have f0 := blk_frozen HH3.out 0
        have f1 := blk_frozen HH3.out 1
        go_wp2
        exact do_ret e1.out rfl rfl HH3.out hsz (Kd.R_nil _ _ _ _ _) (HSb.out _ hBW) rfl (HMb.out _ hBW)
    · go_enter Try.func61, Try.ntmps61
      go_wp2
      rw [← hW1]
      clear hW1
      go_region_held3 (fun w' => w'.cell? ⟨g, 2, none⟩ = some (.slice B1 t.length b1) ∧ w'.cell? ⟨w.heap.size, 2, none⟩ = some (.string key) ∧ Below W1.heap.size W1 w') (first | assumption | exact hS _ (below_drew (Below.refl _ _))) (first | (go_at_call 45; refine (Hcall.out _ (And.right (And.right (by assumption)))).mono ?_; rintro e w3 ⟨rfl, hb⟩; have hS1 := hS _ (below_step (And.right (And.right (by assumption))) hb); clear hb))
      all_goals
        have hBW := hS1.2.2
        have x2' := hS1.2.1
        have hBA : Below W1.heap.size W1 (w3.alloc (.cells #[.string key, .string v] 69)) := below_alloc hBW _
        have HH3 := Aside0.mk (HHb.out _ hBA)
        have HH2 := Aside0.mk (HHb.out _ hBW)
        have z0 : (w3.alloc (.cells #[.string key, .string v] 69)).cell? ⟨w.heap.size + 1, 0, none⟩ = some (.int .i64 0) := by rw [blk_cell HH3.out]; rfl
        have z1 : (w3.alloc (.cells #[.string key, .string v] 69)).cell? ⟨w.heap.size + 1, 1, none⟩ = some (.slice none 0 0) := by rw [blk_cell HH3.out]; rfl
        have f0 := blk_frozen HH3.out 0
        have f1 := blk_frozen HH3.out 1
        have hsz3 := hBW.size
        have hne : ¬ w.heap.size + 1 = w3.heap.size := by have := blk_lt HH2.out; omega
        have hRn : k69.R 69 (w3.alloc (.cells #[.string key, .string v] 69)) w.heap.size (fun _ => True) (.slice (some ⟨w3.heap.size, 0, none⟩) 1 1) [⟨key, v⟩] := row_mk (by omega) (blk_new w3 _) rfl (Nat.le_refl _) (by decide) rfl rfl
        go_wp2
        exact do_ret e1.out rfl rfl HH3.out hsz hRn (HSb.out _ hBA) rfl (HMb.out _ hBA)
  by_cases k3 : k = 3
  · subst k3
    obtain ⟨A1, c1, B1, b1, hD1, hR1⟩ := HS.out
    have y2 : W1.cell? ⟨g, 2, none⟩ = some (.slice B1 t.length b1) := by rw [blk_cell hD1.1]; rfl
    have hcap := Aside0.mk (Kd.R_reads' hR1)
    clear hD1 hR1
    have e1 : Aside0 (actF d t ⟨3, cs, key, n⟩ = ((0, beginF key t), d, t)) := ⟨by unfold actF; rw [if_neg (by simp), if_neg (by simp), if_pos rfl]⟩
    have Hcall : Aside0 (∀ W, Below W1.heap.size W1 W → Calls Try.prog 46 #[.slice B1 t.length b1, .string key] W fun e w' => ∃ v0_ : Value, e = .returned (v0_) ∧ Kd.R k69 69 w' W.heap.size (fun _ => True) v0_ (beginF key t) ∧ Below W.heap.size W w') := ⟨fun W hW => beginning_walk B1 b1 t key W (Kd.C_below hcap.out.2.2 hW) hcap.out.2.1 HI.out.asc hl hk⟩
    have HSb : Aside0 (∀ W, Below W1.heap.size W1 W → StoreAt W base g d.length d t) := ⟨fun W hW => HS.out.below hW⟩
    have HMb : Aside0 (∀ W, Below W1.heap.size W1 W → ModT [95, 5] base w W) := ⟨fun W hW => HM1.out.trans (ModT.of_below hW)⟩
    have HHb : Aside0 (∀ W, Below W1.heap.size W1 W → W.heap[w.heap.size + 1]? = some (.cells #[.int .i64 0, .slice none 0 0] 62 (0, 0))) := ⟨fun W hW => (hW.block _ (blk_lt hhr.out)).trans hhr.out⟩
    have hsz1 := HB1.size
    generalize beginF key t = bs at *
    go_enter Try.func61, Try.ntmps61
    go_wp2
    rw [← hW1]
    clear hW1
    go_still_tail 6, (by kernel_rfl)
    change wpList _ _ _ _ _ W1.drew
    have hbd : Aside0 (Below W1.heap.size W1 W1.drew) := ⟨below_drew (Below.refl _ _)⟩
    generalize W1.drew = w2 at hbd ⊢
    go_wp2_with (go_at_call 46; refine (Hcall.out _ hbd.out).mono ?_; rintro e w3 ⟨v3, rfl, ho, hb⟩; obtain ⟨A3, c3, rfl⟩ := Kd.R_slice ho; have hBW := Aside0.mk (below_step hbd.out hb); have HR3 := Aside0.mk (Kd.R_lower ho (Nat.le_trans hsz1 hbd.out.size)); have HH3 := Aside0.mk (HHb.out _ hBW.out); have z0 : w3.cell? ⟨w.heap.size + 1, 0, none⟩ = some (.int .i64 0) := (by rw [blk_cell HH3.out]; rfl); have z1 : w3.cell? ⟨w.heap.size + 1, 1, none⟩ = some (.slice none 0 0) := (by rw [blk_cell HH3.out]; rfl); have f0 := blk_frozen HH3.out 0; have f1 := blk_frozen HH3.out 1; clear ho hb)
    exact do_ret e1.out rfl rfl HH3.out hsz HR3.out (HSb.out _ hBW.out) rfl (HMb.out _ hBW.out)
  have e1 : Aside0 (actF d t ⟨k, cs, key, n⟩ = ((3, []), d, t)) := ⟨by unfold actF; rw [if_neg k1, if_neg k2, if_neg k3, if_neg k4, if_neg k5]⟩
  have HB2 := Aside0.mk HB1
  clear HB1
  subst hW1
  go_enter Try.func61, Try.ntmps61
  go_wp2
  refine bodyPost_ret (results_cell_row (P := Try.prog) rfl _ _ (w.heap.size + 1) 62 #[.int .i64 3, .slice none 0 0] (0, 0) _ rfl ?_ Try.underlying62 rfl size62) rfl ?_
  · rw [show w.heap.size + 1 = (w.alloc (.cells #[.int .i64 k, .slice A cs.length c, .string key, .int .i64 n] 67)).heap.size by simp]; exact blk_new _ _
  · rw [e1.out]
    have hb2 : ∀ o1 o2, Below w.heap.size w ((w.alloc o1).alloc o2) := fun o1 o2 => below_alloc (below_alloc (Below.refl _ _) _) _
    exact ⟨_, rfl, Kd.R_nil _ _ _ _ _, HS0.out.below (hb2 _ _), ModT.of_below (hb2 _ _)⟩
end Go.Proofs.Ytnjidfgjldkkcaa.Q
/- store.Play, walked. -/
namespace Go.Proofs.Ytnjidfgjldkkcaa.Q
open Go.RowKit Go.Proofs.YtnjidfgjldkkcaaW.PrintWords Go.Proofs.YtnjidfgjldkkcaaW.PrintLast Go.Proofs.YtnjidfgjldkkcaaW.PrintMore Go.Proofs.Ytnjidfgjldkkcaa.Plain Go.Proofs.Ytnjidfgjldkkcaa.Pure
/-- Acts upon a store: what they tell; the file; the table. -/
def actsF : List S67 → List Int → List S69 → List S62 × List Int × List S69
  | [], d, t => ([], d, t)
  | a :: l, d, t => (⟨(actF d t a).1.1, (actF d t a).1.2⟩ :: (actsF l (actF d t a).2.1 (actF d t a).2.2).1, (actsF l (actF d t a).2.1 (actF d t a).2.2).2)
theorem rd67 {l : List S67} {i : Nat} (hi : i < l.length) : rd_T67 l (i : Int) = l[i] := by
  unfold rd_T67
  rw [Int.toNat_natCast, List.getD_eq_getElem?_getD, List.getElem?_eq_getElem hi]; rfl
theorem acts_next {l : List S67} {d : List Int} {t : List S69} {i : Nat} {out : List S62} {R : List S62 × List Int × List S69} (h : (out ++ (actsF (l.drop i) d t).1, (actsF (l.drop i) d t).2) = R) (hi : i < l.length) :
    ((out ++ [⟨(actF d t (rd_T67 l i)).1.1, (actF d t (rd_T67 l i)).1.2⟩]) ++ (actsF (l.drop (i + 1)) (actF d t (rd_T67 l i)).2.1 (actF d t (rd_T67 l i)).2.2).1, (actsF (l.drop (i + 1)) (actF d t (rd_T67 l i)).2.1 (actF d t (rd_T67 l i)).2.2).2) = R := by
  rw [← h, List.drop_eq_getElem_cons hi, rd67 hi]
  simp only [actsF, List.append_assoc, List.singleton_append]
/-- What store.Play says: what was told; the file; the code. -/
def splayF (l : List S67) : List S62 × List Int × Int := if 100 < l.length then ([], [], 1) else ((actsF l [] []).1, (actsF l [] []).2.1, 0)
def Splay (w : World) (R : List S62 × List Int × Int) (e : Ending) (w' : World) : Prop :=
  ∃ vc vd, e = .returned (.tuple #[vc, vd, .int .i64 R.2.2]) ∧ k62.R 62 w' w.heap.size (fun _ => True) vc R.1 ∧ (Kd.int .u8).R 5 w' w.heap.size (fun _ => True) vd R.2.1 ∧ Below w.heap.size w w'
/-- How an act ends, seen from the loop. -/
def DoIn (base g : Nat) (wr : World) (c : Int) (rs : List S69) (d : List Int) (t : List S69) (e : Ending) (w' : World) : Prop := ∃ rv, e = .returned (.agg #[.int .i64 c, rv]) ∧ k69.R 69 w' base (fun q => wr.heap.size ≤ q) rv rs ∧ StoreAt w' base g d.length d t ∧ ModT [95, 5] base wr w'
theorem E62 : ∀ q, q ∈ 62 :: k62.E → q = 62 ∨ q = 69 := by
  intro q hq
  simpa [k62, k69, Kd.iso, Kd.pair, Kd.slice, Kd.int, Kd.string, Kd.scalar] using hq
set_option maxRecDepth 100000 in
set_option maxHeartbeats 8000000 in
theorem store_Play (A : Option Addr) (c : Nat) (l : List S67) (w : World) (hr : Kd.C k67 w A l.length l) (hc : l.length ≤ c) (hk : ∀ a ∈ l, a.f2.size ≤ 140737488351232) :
    Calls Try.prog 38 #[.slice A l.length c] w (Splay w (splayF l)) := by
  unfold splayF
  by_cases hl : 100 < l.length
  · rw [if_pos hl]
    clear hr hk
    go_enter Try.func38, Try.ntmps38
    go_wp2
    go_ret3
    exact ⟨_, _, rfl, Kd.R_nil _ _ _ _ _, Kd.R_nil _ _ _ _ _, Below.refl _ _⟩
  rw [if_neg hl]
  have HR := Aside0.mk hr
  have HC := Aside0.mk hc
  have HK := Aside0.mk hk
  clear hr hc hk
  have hs0 : Aside0 (StoreAt (w.alloc (.cells #[.slice none 0 0, .int .i64 0, .slice none 0 0] 95)) w.heap.size w.heap.size 0 [] []) := ⟨none, 0, none, 0, ⟨by rw [heap_alloc_new]; rfl, Nat.le_refl _, Kd.R_nil _ _ _ _ _, Nat.le_refl _⟩, Kd.R_nil _ _ _ _ _⟩
  have hB0 : Aside0 (Below w.heap.size w (w.alloc (.cells #[.slice none 0 0, .int .i64 0, .slice none 0 0] 95))) := ⟨below_alloc (Below.refl _ _) _⟩
  go_enter Try.func38, Try.ntmps38
  go_wp2
  go_loopw [2, 15] (fun v2 v15 wr => ∃ (i : Nat) (out : List S62) (d : List Int) (t : List S69), v15 = .int .i64 i ∧ Aside0 (i ≤ l.length) ∧ Aside0 ((out ++ (actsF (l.drop i) d t).1, (actsF (l.drop i) d t).2) = actsF l [] []) ∧ Aside0 (out.length ≤ i) ∧ Aside0 (SInv d t) ∧ Aside0 (StoreAt wr w.heap.size w.heap.size d.length d t) ∧ Aside0 (k62.R 62 wr w.heap.size (fun _ => True) v2 out) ∧ Aside0 (Below w.heap.size w wr)) (fun _ v15 _ => l.length - (intOf v15).toNat)
  case atStart => exact ⟨0, [], [], [], rfl, ⟨Nat.zero_le _⟩, ⟨rfl⟩, ⟨Nat.le_refl _⟩, ⟨SInv.nil⟩, hs0, ⟨Kd.R_nil _ _ _ _ _⟩, hB0⟩
  case round =>
    obtain ⟨i, out, d, t, rfl, hi, hs, hol, HI, HS, HO, HB⟩ := hrel
    have hil := hi.out
    by_cases hlt : i < l.length
    · have hst := Aside0.mk (acts_next hs.out hlt)
      obtain ⟨ad, A1, c1, rfl, y0, y1, y2, y3, l1, g1⟩ := at_T67 HR.out (i : Int) (by omega) (by omega)
      have x0 := (HB.out.cell (World.block_lt_of_cell? w _ y0)).trans y0
      have x1 := (HB.out.cell (World.block_lt_of_cell? w _ y1)).trans y1
      have x2 := (HB.out.cell (World.block_lt_of_cell? w _ y2)).trans y2
      have x3 := (HB.out.cell (World.block_lt_of_cell? w _ y3)).trans y3
      clear y0 y1 y2 y3
      rw [Int.toNat_natCast] at x0 x1 x2 x3
      obtain ⟨m, hm⟩ : ∃ m, m = rd_T67 l (i : Int) := ⟨_, rfl⟩
      rw [← hm] at hst x0 x1 x2 x3 l1 g1
      have hmb : m.f2.size ≤ 140737488351232 := HK.out _ (by rw [hm, rd67 hlt]; exact List.getElem_mem _)
      have hinv : Aside0 (SInv (actF d t m).2.1 (actF d t m).2.2) := ⟨actF_inv HI.out m⟩
      have hcall : Aside0 (∀ W, Below wr.heap.size wr W → Calls Try.prog 61 #[.pointer (some ⟨w.heap.size, 0, none⟩), .agg #[.int .i64 m.f0, .slice A1 m.f1.length c1, .string m.f2, .int .i64 m.f3]] W (DoIn w.heap.size w.heap.size wr (actF d t m).1.1 (actF d t m).1.2 (actF d t m).2.1 (actF d t m).2.2)) := ⟨fun W hW => (do_walk w.heap.size w.heap.size d t m A1 c1 W (HS.out.below hW) HI.out (fun W' hm' => Kd.C_below g1 (hm'.below (below_step HB.out hW) (Nat.le_trans HB.out.size hW.size))) l1 hmb).mono fun e w' ⟨rv, h1, h2, h3, h4⟩ => ⟨rv, h1, Kd.R_mono (Kd.R_lower (Kd.R_bound h2) (Nat.le_trans HB.out.size hW.size)) (fun q hq => Nat.le_trans hW.size hq.2.1), h3, (ModT.of_below hW).trans h4⟩⟩
      obtain ⟨k, cs, key, n⟩ := m
      obtain ⟨r, hr⟩ : ∃ r, Aside0 (r = actF d t ⟨k, cs, key, n⟩) := ⟨_, ⟨rfl⟩⟩
      rw [← hr.out] at hcall hst hinv
      obtain ⟨⟨code, rs⟩, d', t'⟩ := r
      clear hm l1 g1 hr hmb
      simp only at hcall hst hinv x0 x1 x2 x3
      go_wp2_with (first | (go_at_call 61; refine (hcall.out _ (by repeat (first | exact Below.refl _ _ | refine below_set ?_ (Nat.le_refl _) | apply below_alloc))).mono ?_; rintro e w3 ⟨rv, rfl, ho, hsn, hm⟩; obtain ⟨Ar, cr, rfl⟩ := Kd.R_slice ho; have HR3 := Aside0.mk ho; have HS3 := Aside0.mk hsn; have HO3 := Aside0.mk (hm.R HO.out (by intro q hq; rcases E62 q hq with rfl | rfl <;> simp)); have HB3 := Aside0.mk (hm.below HB.out HB.out.size); have hap : Aside0 (∀ q, wr.heap.size ≤ q → True ∧ some q ≠ u2.ownBlock) := ⟨fun q hq => ⟨trivial, fun he => (by have := Kd.R_lt HO.out q he.symm; omega)⟩⟩; clear ho hsn hm) | ((with_reducible refine gate_builtin (b := .append) (xs := #[.tmp 19, .tmp 23]) rfl ?_); at_builtin; refine Kd.R_append k62 (w0 := w) w.heap.size rfl (.tmp 19) (.tmp 23) 58 62 _ 32 rfl Try.underlying58 info62 rfl (by decide) (by omega) u2 out ⟨code, rs⟩ [.int .i64 code, .slice Ar rs.length cr] (fun _ => True) (fun q => wr.heap.size ≤ q) rfl rfl (k62_mkM _ _ _ ⟨code, rs⟩ HR3.out) hap.out (fun _ _ => trivial) HO3.out HB3.out (below_size HB3.out) (by have := hol.out; omega) ?_; intro v4 w4 ho hb hg hat; obtain ⟨A4, c4, rfl⟩ := Kd.R_slice ho; rw [List.length_append, List.length_singleton] at ho hat; have HO4 := Aside0.mk ho; have HB4 := Aside0.mk hb; have HS4 := Aside0.mk (HS3.out.mod (ModT.grown (T := [62]) hg HO3.out (by simp) (Nat.le_refl _)) (by simp) (by simp) (by simp)); clear ho hb hg hat))
      go_roundw
      case rel => exact ⟨i + 1, out ++ [⟨code, rs⟩], d', t', by simp, ⟨hlt⟩, hst, ⟨by have := hol.out; rw [List.length_append, List.length_singleton]; omega⟩, hinv, HS4, HO4, HB4⟩
      case measure => simp [intOf]; omega
    · have he : Aside0 ((out, d, t) = actsF l [] []) := ⟨by have := hs.out; rw [List.drop_of_length_le (by omega)] at this; simpa [actsF] using this⟩
      obtain ⟨A2, c2, B2, b2, hD, -⟩ := HS.out
      obtain ⟨z0, -, -, -⟩ := hD.cells
      have HD := Aside0.mk (Kd.R_reads' hD.2.2.1)
      have hdl : d.length ≤ 1200 := by obtain ⟨_, _, _, _, h⟩ := HI.out; exact h
      obtain ⟨Ac, cc, rfl⟩ := Kd.R_slice HO.out
      clear hD
      go_wp2_with (go_at_call 58; refine (slices_Clone_byte_byte.calls A2 c2 d d _ HD.out.2.2 HD.out.2.1 (by unfold slices_Clone_byte_byte.f; rw [if_pos (by omega)])).mono ?_; rintro e w2 ⟨v2, rfl, ho2, hb2⟩; obtain ⟨A3, c3, rfl⟩ := Kd.R_slice ho2; have HO2 := Aside0.mk (Kd.R_lower ho2 HB.out.size); have HO1 := Aside0.mk (Kd.R_below HO.out hb2); have HB2 := Aside0.mk (below_step HB.out hb2); clear ho2 hb2)
      go_ret3
      rw [← he.out]
      exact ⟨_, _, rfl, HO1.out, HO2.out, HB2.out⟩
end Go.Proofs.Ytnjidfgjldkkcaa.Q
/- disk.play, disk.Held, disk.Play, walked. -/
namespace Go.Proofs.Ytnjidfgjldkkcaa.Q
open Go.RowKit Go.Proofs.YtnjidfgjldkkcaaW.PrintWords Go.Proofs.YtnjidfgjldkkcaaW.PrintLast Go.Proofs.YtnjidfgjldkkcaaW.PrintMore
def dskPlay : List S72 → List Int → Nat → List Int × List Int × Nat
  | [], d, s => ([], d, s)
  | m :: t, d, s => ((dskStep d s m).1 :: (dskPlay t (dskStep d s m).2.1 (dskStep d s m).2.2).1, (dskPlay t (dskStep d s m).2.1 (dskStep d s m).2.2).2)
theorem dskStep_len (d : List Int) (s : Nat) (m : S72) (h : d.length ≤ 1200) : (dskStep d s m).2.1.length ≤ 1200 := by
  unfold dskStep
  repeat' split
  all_goals first | exact h | (simp only [List.length_append, List.length_take]; omega)
theorem dsk_next {l : List S72} {d : List Int} {s i : Nat} {cs : List Int} {R : List Int × List Int × Nat} (h : (cs ++ (dskPlay (l.drop i) d s).1, (dskPlay (l.drop i) d s).2) = R) (hi : i < l.length) :
    ((cs ++ [(dskStep d s (rd_T72 l i)).1]) ++ (dskPlay (l.drop (i + 1)) (dskStep d s (rd_T72 l i)).2.1 (dskStep d s (rd_T72 l i)).2.2).1, (dskPlay (l.drop (i + 1)) (dskStep d s (rd_T72 l i)).2.1 (dskStep d s (rd_T72 l i)).2.2).2) = R := by
  have e : rd_T72 l (i : Int) = l[i] := by
    unfold rd_T72
    rw [Int.toNat_natCast, List.getD_eq_getElem?_getD, List.getElem?_eq_getElem hi]; rfl
  rw [← h, List.drop_eq_getElem_cons hi, e]
  simp only [dskPlay, List.append_assoc, List.singleton_append]
set_option maxRecDepth 100000 in
set_option maxHeartbeats 8000000 in
theorem play_big (A : Option Addr) (c : Nat) (l : List S72) (w : World) (hl : 100 < l.length) :
    Calls Try.prog 57 #[.slice A l.length c] w fun e w' => e = .returned (.tuple #[.pointer none, .slice none 0 0, .int .i64 1]) ∧ w = w' := by
  go_enter Try.func57, Try.ntmps57
  go_wp2
  go_ret3
  exact ⟨rfl, rfl⟩
def PlayPost (w : World) (R : List Int × List Int × Nat) (e : Ending) (w' : World) : Prop :=
  ∃ g vc vd, e = .returned (.tuple #[.pointer (some ⟨g, 0, none⟩), vc, .int .i64 0]) ∧ DiskAt 90 [] w' w.heap.size g vd R.2.2 R.2.1 ∧ (Kd.int .i64).R 25 w' w.heap.size (fun _ => True) vc R.1 ∧ Below w.heap.size w w'
set_option maxRecDepth 100000 in
set_option maxHeartbeats 8000000 in
theorem play_walk (A : Option Addr) (c : Nat) (l : List S72) (w : World) (hr : Kd.C k72 w A l.length l) (hc : l.length ≤ c) (hb : ∀ m ∈ l, m.f1.length ≤ 140737488351232) (hl : l.length ≤ 100) :
    Calls Try.prog 57 #[.slice A l.length c] w (PlayPost w (dskPlay l [] 0)) := by
  have HR := Aside0.mk hr
  have HC := Aside0.mk hc
  have HBm := Aside0.mk hb
  clear hr hc hb
  have hd0 : Aside0 (DiskAt 90 [] (w.alloc (.cells #[.slice none 0 0, .int .i64 0] 90)) w.heap.size w.heap.size (.slice none 0 0) 0 []) := ⟨⟨by rw [heap_alloc_new]; rfl, Nat.le_refl _, Kd.R_nil _ _ _ _ _, Nat.le_refl _⟩⟩
  have hB0 : Aside0 (Below w.heap.size w (w.alloc (.cells #[.slice none 0 0, .int .i64 0] 90))) := ⟨below_alloc (Below.refl _ _) _⟩
  go_enter Try.func57, Try.ntmps57
  go_wp2
  go_loopw [6, 16] (fun v6 v16 wr => ∃ (i s : Nat) (cs d : List Int) (vd : Value), v16 = .int .i64 i ∧ Aside0 (i ≤ l.length) ∧ Aside0 ((cs ++ (dskPlay (l.drop i) d s).1, (dskPlay (l.drop i) d s).2) = dskPlay l [] 0) ∧ Aside0 (cs.length ≤ i) ∧ Aside0 (d.length ≤ 1200) ∧ Aside0 (DiskAt 90 [] wr w.heap.size w.heap.size vd s d) ∧ Aside0 ((Kd.int .i64).R 25 wr w.heap.size (fun _ => True) v6 cs) ∧ Aside0 (Below w.heap.size w wr)) (fun _ v16 _ => l.length - (intOf v16).toNat)
  case atStart => exact ⟨0, 0, [], [], _, rfl, ⟨Nat.zero_le _⟩, ⟨rfl⟩, ⟨Nat.le_refl _⟩, ⟨by simp⟩, hd0, ⟨Kd.R_nil _ _ _ _ _⟩, hB0⟩
  case round =>
    obtain ⟨i, s, cs, d, vd, rfl, hi, hs, hcl, hdl, HD, HO, HB⟩ := hrel
    have hil := hi.out
    by_cases hlt : i < l.length
    · have hst := Aside0.mk (dsk_next hs.out hlt)
      have hdl2 := Aside0.mk (dskStep_len d s (rd_T72 l i) hdl.out)
      obtain ⟨ad, A1, c1, rfl, x0, x1, x2, l1, g1⟩ := at_T72 (Kd.C_below HR.out HB.out) (i : Int) (by omega) (by omega)
      rw [Int.toNat_natCast] at x0 x1 x2
      obtain ⟨m, hm⟩ : ∃ m, m = rd_T72 l (i : Int) := ⟨_, rfl⟩
      rw [← hm] at hst hdl2 x0 x1 x2 l1 g1
      have hmb : Aside0 (m.f1.length ≤ 140737488351232) := ⟨HBm.out _ (by rw [hm]; unfold rd_T72; rw [Int.toNat_natCast, List.getD_eq_getElem?_getD, List.getElem?_eq_getElem hlt]; exact List.getElem_mem _)⟩
      have hcall : Aside0 (∀ W, Below wr.heap.size wr W → Calls Try.prog 75 #[.pointer (some ⟨w.heap.size, 0, none⟩), .agg #[.int .i64 m.f0, .slice A1 m.f1.length c1, .int .i64 m.f2]] W (DkPost 90 [] w.heap.size w.heap.size wr (.int .i64 (dskStep d s m).1) (dskStep d s m).2.2 (dskStep d s m).2.1)) := ⟨fun W hW => (disk_do 90 [] _ _ _ s d m A1 c1 W (HD.out.keep (ModT.of_below (T := []) (B := 0) hW) (by simp) (by simp)) (by omega) (Kd.C_below g1 hW) l1 (by have := hdl.out; omega) hmb.out).mono fun e w' ⟨v, h1, h2, h3⟩ => ⟨v, h1, h2, (ModT.of_below hW).trans h3⟩⟩
      obtain ⟨code, hcode⟩ : ∃ z, Aside0 (z = (dskStep d s m).1) := ⟨_, ⟨rfl⟩⟩
      rw [← hcode.out] at hcall hst
      clear hm l1 g1
      go_wp2_with (first | (go_at_call 75; refine (hcall.out _ (by repeat (first | exact Below.refl _ _ | refine below_set ?_ (Nat.le_refl _) | apply below_alloc))).mono ?_; rintro e w3 ⟨v', rfl, hd, hm⟩; have HD3 := Aside0.mk hd; have HO3 := Aside0.mk (hm.R HO.out (by intro q hq; simp [Kd.int, Kd.scalar] at hq; subst hq; simp)); have HB3 := Aside0.mk (hm.below HB.out HB.out.size); clear hd hm) | ((with_reducible refine gate_builtin (b := .append) (xs := #[.tmp 20, .tmp 24]) rfl ?_); at_builtin; refine Kd.R_append (Kd.int .i64) (w0 := w) w.heap.size rfl (.tmp 20) (.tmp 24) 49 25 (.int .i64 0) 8 rfl Try.underlying49 info25 rfl (by decide) (by omega) u6 cs code [.int .i64 code] (fun _ => True) (fun _ => False) rfl rfl rfl (fun _ h => h.elim) (fun _ _ => trivial) HO3.out HB3.out (below_size HB3.out) (by have := hcl.out; omega) ?_; intro v4 w4 ho hb hg hat; obtain ⟨A4, c4, rfl⟩ := Kd.R_slice ho; rw [List.length_append, List.length_singleton] at ho hat; have HO4 := Aside0.mk ho; have HB4 := Aside0.mk hb; have HD4 := Aside0.mk (HD3.out.keep (ModT.grown (T := [25]) hg HO3.out (by simp) (Nat.le_refl _)) (by simp) (by simp)); clear ho hb hg hat))
      go_roundw
      case rel => exact ⟨i + 1, _, cs ++ [code], _, v', by simp, ⟨hlt⟩, hst, ⟨by have := hcl.out; rw [List.length_append, List.length_singleton]; omega⟩, hdl2, HD4, HO4, HB4⟩
      case measure => simp [intOf]; omega
    · have he : Aside0 ((cs, d, s) = dskPlay l [] 0) := ⟨by have := hs.out; rw [List.drop_of_length_le (by omega)] at this; simpa [dskPlay] using this⟩
      go_wp2
      go_ret3
      rw [← he.out]
      exact ⟨_, _, vd, rfl, HD.out, HO.out, HB.out⟩
theorem dskPlay_len : ∀ (l : List S72) (d : List Int) (s : Nat), d.length ≤ 1200 → (dskPlay l d s).2.1.length ≤ 1200 ∧ (dskPlay l d s).1.length = l.length
  | [], d, s, h => ⟨h, rfl⟩
  | m :: t, d, s, h => by
    have := dskPlay_len t _ (dskStep d s m).2.2 (dskStep_len d s m h)
    simp only [dskPlay, List.length_cons]
    exact ⟨this.1, by rw [this.2]⟩
/-- What disk.Held says: how many bytes, how many synced, the code. -/
def heldF (l : List S72) : Int × Int × Int := if 100 < l.length then (0, 0, 1) else (((dskPlay l [] 0).2.1.length : Int), ((dskPlay l [] 0).2.2 : Int), 0)
def disk_Held.f (l : List S72) : Option (Int × Int × Int) := if l.all (fun m => decide (m.f1.length ≤ 140737488351232)) = true then some (heldF l) else none
theorem moves_of {l : List S72} (h : l.all (fun m => decide (m.f1.length ≤ 140737488351232)) = true) : ∀ m ∈ l, m.f1.length ≤ 140737488351232 := fun m hm => by
  have := List.all_eq_true.1 h m hm
  simpa using this
set_option maxRecDepth 100000 in
set_option maxHeartbeats 8000000 in
theorem disk_Held.calls (A0 : Option Addr) (c0 : Nat) (l0 : List S72) (r1 r2 r3 : Int) (w : World) (hr0 : Kd.C k72 w A0 l0.length l0) (hc0 : l0.length ≤ c0) (h : disk_Held.f l0 = some (r1, r2, r3)) :
    Calls Try.prog 33 #[.slice A0 l0.length c0] w fun e w' => e = .returned (.tuple #[.int .i64 r1, .int .i64 r2, .int .i64 r3]) ∧ Below w.heap.size w w' := by
  unfold disk_Held.f at h
  by_cases ha : l0.all (fun m => decide (m.f1.length ≤ 140737488351232)) = true
  case neg => rw [if_neg ha] at h; cases h
  rw [if_pos ha] at h
  replace h := Option.some.inj h
  unfold heldF at h
  by_cases hl : 100 < l0.length
  · rw [if_pos hl] at h
    simp only [Prod.mk.injEq] at h
    obtain ⟨rfl, rfl, rfl⟩ := h
    have H := Aside0.mk (fun W => play_big A0 c0 l0 W hl)
    clear hr0 ha hl
    go_enter Try.func33, Try.ntmps33
    go_wp2_with (go_at_call 57; refine (H.out _).mono ?_; rintro e w1 ⟨rfl, rfl⟩)
    go_ret3
    exact ⟨rfl, Below.refl _ _⟩
  · rw [if_neg hl] at h
    simp only [Prod.mk.injEq] at h
    obtain ⟨rfl, rfl, rfl⟩ := h
    have H := Aside0.mk (play_walk A0 c0 l0 w hr0 hc0 (moves_of ha) (by omega))
    obtain ⟨R, hR⟩ : ∃ R, R = dskPlay l0 [] 0 := ⟨_, rfl⟩
    rw [← hR] at H ⊢
    obtain ⟨cs, d, s⟩ := R
    clear hR hr0 ha hl
    go_enter Try.func33, Try.ntmps33
    go_wp2_with (go_at_call 57; refine H.out.mono ?_; rintro e w1 ⟨g, vc, vd, rfl, hd, ho, hb⟩; obtain ⟨Ad, cd, rfl⟩ := Kd.R_slice hd.2.2.1; obtain ⟨x0, x1, _, _⟩ := hd.cells; have HB := Aside0.mk hb; clear hd ho hb)
    go_quiet (fail)
    go_wp2
    go_ret3
    exact ⟨rfl, pw_below_drewN HB.out _⟩
def playF (l : List S72) : List Int × List Int × Int := if 100 < l.length then ([], [], 1) else ((dskPlay l [] 0).1, (dskPlay l [] 0).2.1, 0)
def Play2 (w : World) (R : List Int × List Int × Int) (e : Ending) (w' : World) : Prop :=
  ∃ vc vd, e = .returned (.tuple #[vc, vd, .int .i64 R.2.2]) ∧ (Kd.int .i64).R 25 w' w.heap.size (fun _ => True) vc R.1 ∧ (Kd.int .u8).R 5 w' w.heap.size (fun _ => True) vd R.2.1 ∧ Below w.heap.size w w'
set_option maxRecDepth 100000 in
set_option maxHeartbeats 8000000 in
theorem disk_Play (A : Option Addr) (c : Nat) (l : List S72) (w : World) (hr : Kd.C k72 w A l.length l) (hc : l.length ≤ c) (hb : ∀ m ∈ l, m.f1.length ≤ 140737488351232) :
    Calls Try.prog 35 #[.slice A l.length c] w (Play2 w (playF l)) := by
  unfold playF
  by_cases hl : 100 < l.length
  · rw [if_pos hl]
    have H := Aside0.mk (fun W => play_big A c l W hl)
    clear hr hb hl
    go_enter Try.func35, Try.ntmps35
    go_wp2_with (go_at_call 57; refine (H.out _).mono ?_; rintro e w1 ⟨rfl, rfl⟩)
    go_ret3
    exact ⟨_, _, rfl, Kd.R_nil _ _ _ _ _, Kd.R_nil _ _ _ _ _, Below.refl _ _⟩
  · rw [if_neg hl]
    have H := Aside0.mk (play_walk A c l w hr hc hb (by omega))
    have hdl := (dskPlay_len l [] 0 (by simp)).1
    obtain ⟨R, hR⟩ : ∃ R, R = dskPlay l [] 0 := ⟨_, rfl⟩
    rw [← hR] at H hdl ⊢
    obtain ⟨cs, d, s⟩ := R
    have HL : Aside0 (d.length ≤ 1200) := ⟨hdl⟩
    clear hR hr hb hl hdl
    go_enter Try.func35, Try.ntmps35
    go_wp2_with (first | (go_at_call 57; refine H.out.mono ?_; rintro e w1 ⟨g, vc, vd, rfl, hd, ho, hb⟩; obtain ⟨Ad, cd, rfl⟩ := Kd.R_slice hd.2.2.1; obtain ⟨Ac, cc, rfl⟩ := Kd.R_slice ho; obtain ⟨x0, x1, _, _⟩ := hd.cells; have HB := Aside0.mk hb; have HD := Aside0.mk (Kd.R_reads' hd.2.2.1); have HO := Aside0.mk ho; clear hd ho hb) | (go_at_call 58; refine (slices_Clone_byte_byte.calls Ad cd d d _ HD.out.2.2 HD.out.2.1 (by unfold slices_Clone_byte_byte.f; rw [if_pos (by have := HL.out; omega)])).mono ?_; rintro e w2 ⟨v2, rfl, ho2, hb2⟩; obtain ⟨A2, c2, rfl⟩ := Kd.R_slice ho2; have HO2 := Aside0.mk (Kd.R_lower ho2 HB.out.size); have HO1 := Aside0.mk (Kd.R_below HO.out hb2); have HB2 := Aside0.mk (below_step HB.out hb2); clear ho2 hb2))
    go_ret3
    exact ⟨_, _, rfl, HO1.out, HO2.out, HB2.out⟩
end Go.Proofs.Ytnjidfgjldkkcaa.Q
/- Plain laws for the top: a store's file on a disk, with noise behind it that falls away, makes its table. -/
namespace Go.Proofs.Ytnjidfgjldkkcaa.Plain
open Go.RowKit Go.Proofs.Ytnjidfgjldkkcaa.Q Go.Proofs.Ytnjidfgjldkkcaa.Pure Go.Proofs.YtnjidfgjldkkcaaW.PrintWords
theorem beginF_nil (t : List S69) : beginF (⟨#[]⟩ : ByteArray) t = t := by
  unfold beginF
  refine List.filter_eq_self.2 fun r _ => ?_
  unfold pfx
  rw [Go.ByteArray.toList_eq]
  simp
theorem actsF_inv : ∀ (l : List S67) (d : List Int) (t : List S69), SInv d t → SInv (actsF l d t).2.1 (actsF l d t).2.2 ∧ (actsF l d t).1.length = l.length
  | [], _, _, h => ⟨h, rfl⟩
  | a :: l, d, t, h => by
    have := actsF_inv l _ _ (actF_inv h a)
    exact ⟨this.1, by simp only [actsF, List.length_cons, this.2]⟩
theorem actsF_append : ∀ (l m : List S67) (d : List Int) (t : List S69), actsF (l ++ m) d t = ((actsF l d t).1 ++ (actsF m (actsF l d t).2.1 (actsF l d t).2.2).1, (actsF m (actsF l d t).2.1 (actsF l d t).2.2).2)
  | [], _, _, _ => rfl
  | a :: l, m, d, t => by
    rw [List.cons_append]
    simp only [actsF, actsF_append l m, List.cons_append]
/-- The act that asks for the whole table. -/
def allA : S67 := ⟨3, [], (⟨#[]⟩ : ByteArray), 0⟩
theorem splay_all (l : List S67) (h : l.length ≤ 99) : ∃ told file t, splayF (l ++ [allA]) = (told ++ [⟨0, t⟩], file, 0) ∧ told.length = l.length ∧ SInv file t := by
  obtain ⟨h1, h2⟩ := actsF_inv l [] [] SInv.nil
  refine ⟨(actsF l [] []).1, (actsF l [] []).2.1, (actsF l [] []).2.2, ?_, h2, h1⟩
  unfold splayF
  rw [if_neg (by rw [List.length_append, List.length_singleton]; omega), actsF_append]
  have e : actF (actsF l [] []).2.1 (actsF l [] []).2.2 allA = ((0, (actsF l [] []).2.2), (actsF l [] []).2.1, (actsF l [] []).2.2) := by
    unfold actF allA
    rw [if_neg (by simp), if_neg (by simp), if_pos rfl, beginF_nil]
  simp only [actsF, e]
theorem SInv.short {d : List Int} {t : List S69} (h : SInv d t) : d.length ≤ 1200 := by obtain ⟨_, _, _, _, h⟩ := h; exact h
theorem recover_file {d : List Int} {t : List S69} (h : SInv d t) : recoverF d = (t, (d.length : Int), 0) := by
  unfold recoverF
  rw [if_neg (by have := h.short; omega), h.whole]
/-- The moves: the file is written and synced; noise; a fall. -/
def noisy (d noise : List Int) : List S72 := [⟨1, d, 0⟩, ⟨2, [], 0⟩, ⟨1, noise, 0⟩, ⟨4, [], 0⟩]
theorem play_noisy (d noise : List Int) (h : d.length ≤ 1200) : (playF (noisy d noise)).2.1 = d ∧ (playF (noisy d noise)).2.2 = 0 := by
  have e1 : dskStep [] 0 ⟨1, d, 0⟩ = (0, d, 0) := by
    unfold dskStep
    rw [if_pos rfl, if_neg (by simp; omega)]
    simp
  have e2 : dskStep d 0 ⟨2, [], 0⟩ = (0, d, d.length) := by
    unfold dskStep
    rw [if_neg (by simp), if_pos rfl]
  have e3 : ∃ c b, dskStep d d.length ⟨1, noise, 0⟩ = (c, d ++ b, d.length) := by
    unfold dskStep
    rw [if_pos rfl]
    by_cases hb : 1200 < d.length + noise.length
    · exact ⟨10, [], by rw [if_pos hb, List.append_nil]⟩
    · exact ⟨0, noise, by rw [if_neg hb]⟩
  obtain ⟨c, b, e3⟩ := e3
  have e4 : dskStep (d ++ b) d.length ⟨4, [], 0⟩ = (0, d, d.length) := by
    have hf : fallN d.length 0 (d ++ b).length = d.length := by unfold fallN; omega
    unfold dskStep
    rw [if_neg (by simp), if_neg (by simp), if_neg (by simp), if_pos rfl, if_neg (by simp), show (0 : Int).toNat = 0 from rfl, hf, List.take_left]
  unfold playF noisy
  rw [if_neg (by simp)]
  simp only [dskPlay, e1, e2, e3, e4, and_self]
end Go.Proofs.Ytnjidfgjldkkcaa.Plain
-- Written for this seat by a program of its session (xp.py over the kit's printer).
namespace Go.Proofs.Ytnjidfgjldkkcaa.Q
open Go.RowKit Go.Proofs.YtnjidfgjldkkcaaW.PrintWords Go.Proofs.YtnjidfgjldkkcaaW.PrintLast Go.Proofs.YtnjidfgjldkkcaaW.PrintMore
attribute [local go_sem] max2_int min2_int max_two min_two max_three min_three max_four min_four xq_geq xq_leq xq_gtr   -- for this text's walks alone
set_option linter.unusedVariables false
set_option linter.unusedSimpArgs false

attribute [local go_sem high] eqA69
/-! ### bagnalltop_sameRows: function 41 -/
def bagnalltop_sameRows.l0 : Nat → List (S69) → List (S69) → Int → Option (Bool)
  | 0, _, _, _ => none
  | k + 1, x0, x1, x5 => if x5 < (x0.length : Int) then (if 0 ≤ x5 then (if x5 < (x1.length : Int) then (if (!((((rd_T69 x0 x5).f0).toList) == (((rd_T69 x1 x5).f0).toList)) || (!((((rd_T69 x0 x5).f1).toList) == (((rd_T69 x1 x5).f1).toList)))) = true then (some false) else (bagnalltop_sameRows.l0 k x0 x1 (wrap64 (x5 + 1)))) else (none)) else (none)) else (some true)
def bagnalltop_sameRows.f (k : Nat) (l0 : List (S69)) (l1 : List (S69)) : Option (Bool) := if (l0.length : Int) = (l1.length : Int) then (bagnalltop_sameRows.l0 k l0 l1 0) else (some false)
theorem bagnalltop_sameRows.mono_l : ∀ k, (∀ y0 y1 y2, LeO (bagnalltop_sameRows.l0 k y0 y1 y2) (bagnalltop_sameRows.l0 (k + 1) y0 y1 y2))
  | 0 => fun _ _ _ r h => by simp [bagnalltop_sameRows.l0] at h
  | k + 1 => by
    have ih0 := bagnalltop_sameRows.mono_l k
    · intro y0 y1 y2
      unfold bagnalltop_sameRows.l0
      repeat' first
      | (with_reducible exact ih0 _ _ _)
      | (with_reducible exact LeO.refl _)
      | (with_reducible exact LeO.none _)
      | (with_reducible refine LeO.ite ?_ ?_)
      | (with_reducible refine LeO.bind ?_ (fun _ => ?_))
      | exact ih0 _ _ _
      | exact LeO.none _
      | refine LeO.ite ?_ ?_
      | refine LeO.bind ?_ (fun _ => ?_)
theorem bagnalltop_sameRows.mono : ∀ a0 a1 k, LeO (bagnalltop_sameRows.f k a0 a1) (bagnalltop_sameRows.f (k + 1) a0 a1) := by
  intro a0 a1 k
  have ih0 := bagnalltop_sameRows.mono_l k
  unfold bagnalltop_sameRows.f
  repeat' first
      | (with_reducible exact ih0 _ _ _)
      | (with_reducible exact LeO.refl _)
      | (with_reducible exact LeO.none _)
      | (with_reducible refine LeO.ite ?_ ?_)
      | (with_reducible refine LeO.bind ?_ (fun _ => ?_))
      | exact ih0 _ _ _
      | exact LeO.none _
      | refine LeO.ite ?_ ?_
      | refine LeO.bind ?_ (fun _ => ?_)
set_option maxHeartbeats 8000000 in
set_option maxRecDepth 100000 in
theorem bagnalltop_sameRows.calls (k : Nat) (A0 : Option Addr) (c0 : Nat) (l0 : List (S69)) (A1 : Option Addr) (c1 : Nat) (l1 : List (S69)) (r : Bool) (w : World) (hr0 : Kd.C k69 w A0 l0.length l0) (hc0 : l0.length ≤ c0) (hr1 : Kd.C k69 w A1 l1.length l1) (hc1 : l1.length ≤ c1) (h : bagnalltop_sameRows.f k l0 l1 = some r) :
    Calls Try.prog 41 #[.slice A0 l0.length c0, .slice A1 l1.length c1] w fun e w' => e = .returned (.bool r) ∧ Drawn0 w w' := by
  have hu69 := Try.underlying69
  have HR0 := Aside0.mk hr0
  have HC0 := Aside0.mk hc0
  clear hr0 hc0
  have HR1 := Aside0.mk hr1
  have HC1 := Aside0.mk hc1
  clear hr1 hc1
  have H : (if (l0.length : Int) = (l1.length : Int) then (bagnalltop_sameRows.l0 k l0 l1 0) else (some false)) = some r := h
  clear h
  by_cases c3 : (l0.length : Int) = (l1.length : Int)
  · rw [if_pos c3] at H
    have c3b0 : ((l0.length : Int) == (l1.length : Int)) = true := beq_iff_eq.mpr c3
    have c3b1 : ((l0.length : Int) != (l1.length : Int)) = false := bne_eq_false_iff_eq.mpr c3
    have c3b2 : (l0.length == l1.length) = true := by first | simpa using c3 | (simp at c3 ⊢; omega)
    clear c3
    have H' := Aside0.mk H
    clear H
    go_enter Try.func41, Try.ntmps41
    go_wp2
    repeat (go_quiet (fail); try go_wp2)
    go_loopg [5] k (fun kq v5 w' => ∃ (x5_1 : Int), v5 = .int .i64 x5_1 ∧ Aside0 (bagnalltop_sameRows.l0 kq l0 l1 x5_1 = some r) ∧ Aside0 (kq ≤ k) ∧ Drawn0 w w')
    case atStart => exact ⟨(0), (by first | rfl | (simp; done) | (simp [*]; done)), H', ⟨Nat.le_refl _⟩, by repeat (first | exact Drawn0.refl _ | apply Drawn0.step)⟩
    case round =>
      clear H'
      try clear c1
      try clear p2
      try clear c3
      try clear c3b0
      try clear c3b1
      try clear c3b2
      obtain ⟨x5_1, rfl, HA, HK1, ⟨m1, rfl⟩⟩ := hrel
      cases gk with
      | zero => exact absurd HA.out (by simp [bagnalltop_sameRows.l0])
      | succ k1 =>
        have H := HA.out
        clear HA
        simp only [bagnalltop_sameRows.l0] at H
        by_cases c4 : x5_1 < (l0.length : Int)
        · rw [if_pos c4] at H
          have c4b0 : decide (x5_1 < (l0.length : Int)) = true := decide_eq_true c4
          clear c4
          by_cases c5 : 0 ≤ x5_1
          · rw [if_pos c5] at H
            have c5b0 : decide (0 ≤ x5_1) = true := decide_eq_true c5
            clear c5
            by_cases c6 : x5_1 < (l1.length : Int)
            · rw [if_pos c6] at H
              have c6b0 : decide (x5_1 < (l1.length : Int)) = true := decide_eq_true c6
              clear c6
              by_cases c7 : (!((((rd_T69 l0 x5_1).f0).toList) == (((rd_T69 l1 x5_1).f0).toList)) || (!((((rd_T69 l0 x5_1).f1).toList) == (((rd_T69 l1 x5_1).f1).toList)))) = true
              · rw [if_pos c7] at H
                have c7b0 : (!((((rd_T69 l0 x5_1).f0).toList) == (((rd_T69 l1 x5_1).f0).toList)) || (!((((rd_T69 l0 x5_1).f1).toList) == (((rd_T69 l1 x5_1).f1).toList)))) = true := c7
                clear c7
                obtain rfl := Option.some.inj H
                have p101 : 0 ≤ (x5_1 : Int) := of_decide_eq_true (by first | (with_reducible assumption) | assumption)
                have q101 : x5_1 < (l0.length : Int) := of_decide_eq_true (by first | (with_reducible assumption) | assumption)
                obtain ⟨ad101, e101, hx101_0, hx101_1⟩ := at_T69 HR0.out x5_1 p101 q101
                cases e101
                replace p101 := eq_true p101
                replace q101 := eq_true q101
                have p102 : 0 ≤ (x5_1 : Int) := of_decide_eq_true (by first | (with_reducible assumption) | assumption)
                have q102 : x5_1 < (l1.length : Int) := of_decide_eq_true (by first | (with_reducible assumption) | assumption)
                obtain ⟨ad102, e102, hx102_0, hx102_1⟩ := at_T69 HR1.out x5_1 p102 q102
                cases e102
                replace p102 := eq_true p102
                replace q102 := eq_true q102
                go_wp2
                repeat (go_quiet (fail); try go_wp2)
                go_ret
                exact ⟨by first | rfl | (simp; done) | (simp [*]; done), by repeat (first | exact Drawn0.refl _ | apply Drawn0.step)⟩
              · rw [if_neg c7] at H
                have c7b0 : (!((((rd_T69 l0 x5_1).f0).toList) == (((rd_T69 l1 x5_1).f0).toList)) || (!((((rd_T69 l0 x5_1).f1).toList) == (((rd_T69 l1 x5_1).f1).toList)))) = false := by simpa using c7
                clear c7
                have H' := Aside0.mk H
                clear H
                have p101 : 0 ≤ (x5_1 : Int) := of_decide_eq_true (by first | (with_reducible assumption) | assumption)
                have q101 : x5_1 < (l0.length : Int) := of_decide_eq_true (by first | (with_reducible assumption) | assumption)
                obtain ⟨ad101, e101, hx101_0, hx101_1⟩ := at_T69 HR0.out x5_1 p101 q101
                cases e101
                replace p101 := eq_true p101
                replace q101 := eq_true q101
                have p102 : 0 ≤ (x5_1 : Int) := of_decide_eq_true (by first | (with_reducible assumption) | assumption)
                have q102 : x5_1 < (l1.length : Int) := of_decide_eq_true (by first | (with_reducible assumption) | assumption)
                obtain ⟨ad102, e102, hx102_0, hx102_1⟩ := at_T69 HR1.out x5_1 p102 q102
                cases e102
                replace p102 := eq_true p102
                replace q102 := eq_true q102
                go_wp2
                repeat (go_quiet (fail); try go_wp2)
                go_roundg k1
                case measure => have := HK1.out; omega
                case rel => exact ⟨(wrap64 (x5_1 + 1)), (by first | rfl | (simp; done) | (simp [*]; done)), H', ⟨by have := HK1.out; omega⟩, by repeat (first | exact Drawn0.refl _ | apply Drawn0.step)⟩
            · rw [if_neg c6] at H
              exact absurd H (by simp)
          · rw [if_neg c5] at H
            exact absurd H (by simp)
        · rw [if_neg c4] at H
          have c4b0 : decide (x5_1 < (l0.length : Int)) = false := decide_eq_false c4
          clear c4
          obtain rfl := Option.some.inj H
          go_wp2
          repeat (go_quiet (fail); try go_wp2)
          go_ret
          exact ⟨by first | rfl | (simp; done) | (simp [*]; done), by repeat (first | exact Drawn0.refl _ | apply Drawn0.step)⟩
  · rw [if_neg c3] at H
    have c3b0 : ((l0.length : Int) == (l1.length : Int)) = false := beq_eq_false_iff_ne.mpr c3
    have c3b1 : ((l0.length : Int) != (l1.length : Int)) = true := bne_iff_ne.mpr c3
    have c3b2 : (l0.length == l1.length) = false := by first | simpa using c3 | (simp at c3 ⊢; omega)
    obtain rfl := Option.some.inj H
    go_enter Try.func41, Try.ntmps41
    go_wp2
    repeat (go_quiet (fail); try go_wp2)
    go_ret
    exact ⟨by first | rfl | (simp; done) | (simp [*]; done), by repeat (first | exact Drawn0.refl _ | apply Drawn0.step)⟩

/-! ### bagnalltop_sameBytes: function 42 -/
def bagnalltop_sameBytes.l0 : Nat → List Int → List Int → Int → Option (Bool)
  | 0, _, _, _ => none
  | k + 1, x0, x1, x5 => if x5 < (x0.length : Int) then (if 0 ≤ x5 then (if x5 < (x1.length : Int) then (if (rd x0 x5) = (rd x1 x5) then (bagnalltop_sameBytes.l0 k x0 x1 (wrap64 (x5 + 1))) else (some false)) else (none)) else (none)) else (some true)
def bagnalltop_sameBytes.f (k : Nat) (l0 : List Int) (l1 : List Int) : Option (Bool) := if (l0.length : Int) = (l1.length : Int) then (bagnalltop_sameBytes.l0 k l0 l1 0) else (some false)
theorem bagnalltop_sameBytes.mono_l : ∀ k, (∀ y0 y1 y2, LeO (bagnalltop_sameBytes.l0 k y0 y1 y2) (bagnalltop_sameBytes.l0 (k + 1) y0 y1 y2))
  | 0 => fun _ _ _ r h => by simp [bagnalltop_sameBytes.l0] at h
  | k + 1 => by
    have ih0 := bagnalltop_sameBytes.mono_l k
    · intro y0 y1 y2
      unfold bagnalltop_sameBytes.l0
      repeat' first
      | (with_reducible exact ih0 _ _ _)
      | (with_reducible exact LeO.refl _)
      | (with_reducible exact LeO.none _)
      | (with_reducible refine LeO.ite ?_ ?_)
      | (with_reducible refine LeO.bind ?_ (fun _ => ?_))
      | exact ih0 _ _ _
      | exact LeO.none _
      | refine LeO.ite ?_ ?_
      | refine LeO.bind ?_ (fun _ => ?_)
theorem bagnalltop_sameBytes.mono : ∀ a0 a1 k, LeO (bagnalltop_sameBytes.f k a0 a1) (bagnalltop_sameBytes.f (k + 1) a0 a1) := by
  intro a0 a1 k
  have ih0 := bagnalltop_sameBytes.mono_l k
  unfold bagnalltop_sameBytes.f
  repeat' first
      | (with_reducible exact ih0 _ _ _)
      | (with_reducible exact LeO.refl _)
      | (with_reducible exact LeO.none _)
      | (with_reducible refine LeO.ite ?_ ?_)
      | (with_reducible refine LeO.bind ?_ (fun _ => ?_))
      | exact ih0 _ _ _
      | exact LeO.none _
      | refine LeO.ite ?_ ?_
      | refine LeO.bind ?_ (fun _ => ?_)
set_option maxHeartbeats 8000000 in
set_option maxRecDepth 100000 in
theorem bagnalltop_sameBytes.calls (k : Nat) (A0 : Option Addr) (c0 : Nat) (l0 : List Int) (A1 : Option Addr) (c1 : Nat) (l1 : List Int) (r : Bool) (w : World) (hr0 : Kd.C (Kd.int .u8) w A0 l0.length l0) (hc0 : l0.length ≤ c0) (hr1 : Kd.C (Kd.int .u8) w A1 l1.length l1) (hc1 : l1.length ≤ c1) (h : bagnalltop_sameBytes.f k l0 l1 = some r) :
    Calls Try.prog 42 #[.slice A0 l0.length c0, .slice A1 l1.length c1] w fun e w' => e = .returned (.bool r) ∧ Drawn0 w w' := by
  have HR0 := Aside0.mk hr0
  have HC0 := Aside0.mk hc0
  clear hr0 hc0
  have HR1 := Aside0.mk hr1
  have HC1 := Aside0.mk hc1
  clear hr1 hc1
  have H : (if (l0.length : Int) = (l1.length : Int) then (bagnalltop_sameBytes.l0 k l0 l1 0) else (some false)) = some r := h
  clear h
  by_cases c3 : (l0.length : Int) = (l1.length : Int)
  · rw [if_pos c3] at H
    have c3b0 : ((l0.length : Int) == (l1.length : Int)) = true := beq_iff_eq.mpr c3
    have c3b1 : ((l0.length : Int) != (l1.length : Int)) = false := bne_eq_false_iff_eq.mpr c3
    have c3b2 : (l0.length == l1.length) = true := by first | simpa using c3 | (simp at c3 ⊢; omega)
    clear c3
    have H' := Aside0.mk H
    clear H
    go_enter Try.func42, Try.ntmps42
    go_wp2
    repeat (go_quiet (fail); try go_wp2)
    go_loopg [5] k (fun kq v5 w' => ∃ (x5_1 : Int), v5 = .int .i64 x5_1 ∧ Aside0 (bagnalltop_sameBytes.l0 kq l0 l1 x5_1 = some r) ∧ Aside0 (kq ≤ k) ∧ Drawn0 w w')
    case atStart => exact ⟨(0), (by first | rfl | (simp; done) | (simp [*]; done)), H', ⟨Nat.le_refl _⟩, by repeat (first | exact Drawn0.refl _ | apply Drawn0.step)⟩
    case round =>
      clear H'
      try clear c1
      try clear p2
      try clear c3
      try clear c3b0
      try clear c3b1
      try clear c3b2
      obtain ⟨x5_1, rfl, HA, HK1, ⟨m1, rfl⟩⟩ := hrel
      cases gk with
      | zero => exact absurd HA.out (by simp [bagnalltop_sameBytes.l0])
      | succ k1 =>
        have H := HA.out
        clear HA
        simp only [bagnalltop_sameBytes.l0] at H
        by_cases c4 : x5_1 < (l0.length : Int)
        · rw [if_pos c4] at H
          have c4b0 : decide (x5_1 < (l0.length : Int)) = true := decide_eq_true c4
          clear c4
          by_cases c5 : 0 ≤ x5_1
          · rw [if_pos c5] at H
            have c5b0 : decide (0 ≤ x5_1) = true := decide_eq_true c5
            clear c5
            by_cases c6 : x5_1 < (l1.length : Int)
            · rw [if_pos c6] at H
              have c6b0 : decide (x5_1 < (l1.length : Int)) = true := decide_eq_true c6
              clear c6
              by_cases c7 : (rd l0 x5_1) = (rd l1 x5_1)
              · rw [if_pos c7] at H
                have c7b0 : ((rd l0 x5_1) == (rd l1 x5_1)) = true := beq_iff_eq.mpr c7
                have c7b1 : ((rd l0 x5_1) != (rd l1 x5_1)) = false := bne_eq_false_iff_eq.mpr c7
                clear c7
                have H' := Aside0.mk H
                clear H
                have p103 : 0 ≤ (x5_1 : Int) := of_decide_eq_true (by first | (with_reducible assumption) | assumption)
                have q103 : x5_1 < (l0.length : Int) := of_decide_eq_true (by first | (with_reducible assumption) | assumption)
                obtain ⟨ad103, e103, hx103_0⟩ := Kd.at_int HR0.out x5_1 p103 q103
                cases e103
                replace p103 := eq_true p103
                replace q103 := eq_true q103
                have p104 : 0 ≤ (x5_1 : Int) := of_decide_eq_true (by first | (with_reducible assumption) | assumption)
                have q104 : x5_1 < (l1.length : Int) := of_decide_eq_true (by first | (with_reducible assumption) | assumption)
                obtain ⟨ad104, e104, hx104_0⟩ := Kd.at_int HR1.out x5_1 p104 q104
                cases e104
                replace p104 := eq_true p104
                replace q104 := eq_true q104
                go_wp2
                repeat (go_quiet (fail); try go_wp2)
                go_roundg k1
                case measure => have := HK1.out; omega
                case rel => exact ⟨(wrap64 (x5_1 + 1)), (by first | rfl | (simp; done) | (simp [*]; done)), H', ⟨by have := HK1.out; omega⟩, by repeat (first | exact Drawn0.refl _ | apply Drawn0.step)⟩
              · rw [if_neg c7] at H
                have c7b0 : ((rd l0 x5_1) == (rd l1 x5_1)) = false := beq_eq_false_iff_ne.mpr c7
                have c7b1 : ((rd l0 x5_1) != (rd l1 x5_1)) = true := bne_iff_ne.mpr c7
                obtain rfl := Option.some.inj H
                have p103 : 0 ≤ (x5_1 : Int) := of_decide_eq_true (by first | (with_reducible assumption) | assumption)
                have q103 : x5_1 < (l0.length : Int) := of_decide_eq_true (by first | (with_reducible assumption) | assumption)
                obtain ⟨ad103, e103, hx103_0⟩ := Kd.at_int HR0.out x5_1 p103 q103
                cases e103
                replace p103 := eq_true p103
                replace q103 := eq_true q103
                have p104 : 0 ≤ (x5_1 : Int) := of_decide_eq_true (by first | (with_reducible assumption) | assumption)
                have q104 : x5_1 < (l1.length : Int) := of_decide_eq_true (by first | (with_reducible assumption) | assumption)
                obtain ⟨ad104, e104, hx104_0⟩ := Kd.at_int HR1.out x5_1 p104 q104
                cases e104
                replace p104 := eq_true p104
                replace q104 := eq_true q104
                go_wp2
                repeat (go_quiet (fail); try go_wp2)
                go_ret
                exact ⟨by first | rfl | (simp; done) | (simp [*]; done), by repeat (first | exact Drawn0.refl _ | apply Drawn0.step)⟩
            · rw [if_neg c6] at H
              exact absurd H (by simp)
          · rw [if_neg c5] at H
            exact absurd H (by simp)
        · rw [if_neg c4] at H
          have c4b0 : decide (x5_1 < (l0.length : Int)) = false := decide_eq_false c4
          clear c4
          obtain rfl := Option.some.inj H
          go_wp2
          repeat (go_quiet (fail); try go_wp2)
          go_ret
          exact ⟨by first | rfl | (simp; done) | (simp [*]; done), by repeat (first | exact Drawn0.refl _ | apply Drawn0.step)⟩
  · rw [if_neg c3] at H
    have c3b0 : ((l0.length : Int) == (l1.length : Int)) = false := beq_eq_false_iff_ne.mpr c3
    have c3b1 : ((l0.length : Int) != (l1.length : Int)) = true := bne_iff_ne.mpr c3
    have c3b2 : (l0.length == l1.length) = false := by first | simpa using c3 | (simp at c3 ⊢; omega)
    obtain rfl := Option.some.inj H
    go_enter Try.func42, Try.ntmps42
    go_wp2
    repeat (go_quiet (fail); try go_wp2)
    go_ret
    exact ⟨by first | rfl | (simp; done) | (simp [*]; done), by repeat (first | exact Drawn0.refl _ | apply Drawn0.step)⟩

end Go.Proofs.Ytnjidfgjldkkcaa.Q
/- The comparisons of the top: a list is the same as itself. -/
namespace Go.Proofs.Ytnjidfgjldkkcaa.Plain
open Go.RowKit Go.Proofs.Ytnjidfgjldkkcaa.Q Go.Proofs.YtnjidfgjldkkcaaW.PrintWords
theorem topRows_l0 (l : List S69) (hl : l.length ≤ 1000000) : ∀ (d i : Nat), i + d = l.length → Ev (fun n => bagnalltop_sameRows.l0 n l l (i : Int)) true
  | 0, i, hi => Ev.step (fun k => rfl) (Ev.neg (by omega) (Ev.now _))
  | d + 1, i, hi => by
    have e2 : wrap64 ((i : Int) + 1) = ((i + 1 : Nat) : Int) := wrap_succ (by omega)
    refine Ev.step (fun k => rfl) (Ev.pos (by omega) (Ev.pos (by omega) (Ev.pos (by omega) (Ev.neg (by simp) ?_))))
    rw [e2]
    exact topRows_l0 l hl d (i + 1) (by omega)
theorem topRows_ev (l : List S69) (hl : l.length ≤ 1000000) : Ev (fun n => bagnalltop_sameRows.f n l l) true := by
  unfold bagnalltop_sameRows.f
  exact Ev.pos rfl (topRows_l0 l hl l.length 0 (by omega))
theorem topBytes_l0 (l : List Int) (hl : l.length ≤ 1000000) : ∀ (d i : Nat), i + d = l.length → Ev (fun n => bagnalltop_sameBytes.l0 n l l (i : Int)) true
  | 0, i, hi => Ev.step (fun k => rfl) (Ev.neg (by omega) (Ev.now _))
  | d + 1, i, hi => by
    have e2 : wrap64 ((i : Int) + 1) = ((i + 1 : Nat) : Int) := wrap_succ (by omega)
    refine Ev.step (fun k => rfl) (Ev.pos (by omega) (Ev.pos (by omega) (Ev.pos (by omega) (Ev.pos rfl ?_))))
    rw [e2]
    exact topBytes_l0 l hl d (i + 1) (by omega)
theorem topBytes_ev (l : List Int) (hl : l.length ≤ 1000000) : Ev (fun n => bagnalltop_sameBytes.f n l l) true := by
  unfold bagnalltop_sameBytes.f
  exact Ev.pos rfl (topBytes_l0 l hl l.length 0 (by omega))
theorem topBytes_walk (A B : Option Addr) (c c' : Nat) (x : List Int) (w : World) (hx : Kd.C (Kd.int .u8) w A x.length x) (hc : x.length ≤ c) (hy : Kd.C (Kd.int .u8) w B x.length x) (hc' : x.length ≤ c') (hl : x.length ≤ 1000000) :
    Calls Try.prog 42 #[.slice A x.length c, .slice B x.length c'] w fun e w' => e = .returned (.bool true) ∧ Drawn0 w w' := by
  obtain ⟨n, hn⟩ := (topBytes_ev x hl).rounds
  exact bagnalltop_sameBytes.calls n A c x B c' x true w hx hc hy hc' hn
theorem topRows_walk (A B : Option Addr) (c c' : Nat) (x : List S69) (w : World) (hx : Kd.C k69 w A x.length x) (hc : x.length ≤ c) (hy : Kd.C k69 w B x.length x) (hc' : x.length ≤ c') (hl : x.length ≤ 1000000) :
    Calls Try.prog 41 #[.slice A x.length c, .slice B x.length c'] w fun e w' => e = .returned (.bool true) ∧ Drawn0 w w' := by
  obtain ⟨n, hn⟩ := (topRows_ev x hl).rounds
  exact bagnalltop_sameRows.calls n A c x B c' x true w hx hc hy hc' hn
end Go.Proofs.Ytnjidfgjldkkcaa.Plain
/- A store's file on a disk survives a fall as far as it is synced: the law returns true; no condition. -/
namespace Go.Proofs.Ytnjidfgjldkkcaa.Pure
open Go.RowKit Go.Proofs.Ytnjidfgjldkkcaa.Q Go.Proofs.YtnjidfgjldkkcaaW.PrintWords Go.Proofs.Ytnjidfgjldkkcaa.Plain
theorem R_rows {α : Type} {d : Kd α} {e : Nat} {w : World} {base : Nat} {ok : Nat → Prop} {A : Option Addr} {n c : Nat} {xs : List α} (h : d.R e w base ok (.slice A n c) xs) : ReadsRow (d.M w base ok) d.sz w A xs.length xs := by
  obtain ⟨A', c', he, _, hr⟩ := h.2.reads
  cases he
  exact ReadsRow.imp_ hr (Below.refl _ _) (fun p cs hp => d.M_mono (fun k hk => hk.1) hp)
/-- A block of cells that reads as a list. -/
theorem C_cells {α : Type} {d : Kd α} {w : World} {g e : Nat} {xs : List α} {inner : List Value} (hb : w.heap[g]? = some (.cells inner.toArray e (0, 0))) (hr : Reps (d.K w) d.sz xs inner) (hl : xs.length ≤ 1000) : d.C w (some ⟨g, 0, none⟩) xs.length xs := by
  refine ⟨rfl, by omega, fun _ => ⟨_, rfl, fun j p hp => ⟨_, ?_, hr.2 j p hp, fun i u hu => ?_⟩⟩⟩
  · exact d.K_len (hr.2 j p hp)
  · have e : (⟨g, 0, none⟩ : Addr).add (j * d.sz + i) = ⟨g, j * d.sz + i, none⟩ := by simp [Addr.add]; omega
    rw [e, blk_cell hb]
    have hi : i < d.sz := by
      have := (List.getElem?_eq_some_iff.1 hu).1
      rw [List.length_take] at this
      omega
    rw [List.getElem?_take_of_lt hi, List.getElem?_drop] at hu
    simpa using hu
theorem acts30 (A : Option Addr) (c : Nat) (l : List S100) (w : World) (hr : Kd.C k100 w A l.length l) (hc : l.length ≤ c) :
    Calls Try.prog 40 #[.slice A l.length c, .int .i64 30] w fun e w' => ∃ v la, e = .returned v ∧ k67.R 67 w' w.heap.size (fun _ => True) v la ∧ la.length = min l.length 30 ∧ (∀ a ∈ la, a.f2.size ≤ 2) ∧ Below w.heap.size w w' := acts_walk A c l 30 w hr hc (by omega)
theorem moves_walk (w : World) (d noise : List Int) (A B : Option Addr) (c c' : Nat) (hd : Kd.C (Kd.int .u8) w A d.length d) (hc : d.length ≤ c) (hn : Kd.C (Kd.int .u8) w B noise.length noise) (hc' : noise.length ≤ c') (hl : d.length ≤ 1200) (hl' : noise.length ≤ 1200) :
    Calls Try.prog 35 #[.slice (some ⟨w.heap.size, 0, none⟩) 4 4] (w.alloc (.cells #[.int .i64 1, .slice A d.length c, .int .i64 0, .int .i64 2, .slice none 0 0, .int .i64 0, .int .i64 1, .slice B noise.length c', .int .i64 0, .int .i64 4, .slice none 0 0, .int .i64 0] 72)) (Play2 (w.alloc (.cells #[.int .i64 1, .slice A d.length c, .int .i64 0, .int .i64 2, .slice none 0 0, .int .i64 0, .int .i64 1, .slice B noise.length c', .int .i64 0, .int .i64 4, .slice none 0 0, .int .i64 0] 72)) (playF (noisy d noise))) := by
  refine disk_Play (some ⟨w.heap.size, 0, none⟩) 4 (noisy d noise) _ (C_cells (inner := [.int .i64 1, .slice A d.length c, .int .i64 0, .int .i64 2, .slice none 0 0, .int .i64 0, .int .i64 1, .slice B noise.length c', .int .i64 0, .int .i64 4, .slice none 0 0, .int .i64 0]) (blk_new w _) ⟨rfl, fun j p hp => ?_⟩ (by simp [noisy])) (by simp [noisy]) ?_
  · match j, hp with
    | 0, hp => cases hp; exact k72_mk _ ⟨1, d, 0⟩ hc (Kd.C_alloc hd _)
    | 1, hp => cases hp; exact k72_mk _ ⟨2, [], 0⟩ (Nat.le_refl _) (Kd.C_nil _ _)
    | 2, hp => cases hp; exact k72_mk _ ⟨1, noise, 0⟩ hc' (Kd.C_alloc hn _)
    | 3, hp => cases hp; exact k72_mk _ ⟨4, [], 0⟩ (Nat.le_refl _) (Kd.C_nil _ _)
    | j + 4, hp => simp [noisy] at hp
  · intro m hm
    simp only [noisy, List.mem_cons, List.mem_nil_iff, or_false] at hm
    rcases hm with rfl | rfl | rfl | rfl
    · exact Nat.le_trans hl (by omega)
    · simp
    · exact Nat.le_trans hl' (by omega)
    · simp
theorem one_walk (w : World) :
    Calls Try.prog 27 #[.slice (some ⟨w.heap.size + 1, 0, none⟩) 1 1] ((w.alloc (.cells #[.int .u8 1] 5)).alloc (.cells #[.slice (some ⟨w.heap.size, 0, none⟩) 1 1] 36)) fun e w' => ∃ v0_ : Value, e = .returned (.tuple #[v0_, .int .i64 0]) ∧ Kd.R (Kd.int .u8) 5 w' ((w.alloc (.cells #[.int .u8 1] 5)).alloc (.cells #[.slice (some ⟨w.heap.size, 0, none⟩) 1 1] 36)).heap.size (fun _ => True) v0_ (packF [[1]]) ∧ Below ((w.alloc (.cells #[.int .u8 1] 5)).alloc (.cells #[.slice (some ⟨w.heap.size, 0, none⟩) 1 1] 36)).heap.size ((w.alloc (.cells #[.int .u8 1] 5)).alloc (.cells #[.slice (some ⟨w.heap.size, 0, none⟩) 1 1] 36)) w' := by
  have h1 : Kd.C (Kd.int .u8) (w.alloc (.cells #[.int .u8 1] 5)) (some ⟨w.heap.size, 0, none⟩) ([1] : List Int).length [1] := C_cells (inner := [.int .u8 1]) (blk_new w _) ⟨rfl, fun j p hp => by
    match j, hp with
    | 0, hp => cases hp; rfl
    | j + 1, hp => simp at hp⟩ (by simp)
  have e : (w.alloc (.cells #[.int .u8 1] 5)).heap.size = w.heap.size + 1 := by simp
  have h2 := blk_new (w.alloc (.cells #[.int .u8 1] 5)) (.cells #[.slice (some ⟨w.heap.size, 0, none⟩) 1 1] 36)
  rw [e] at h2
  exact wal_Pack.calls (some ⟨w.heap.size + 1, 0, none⟩) 1 [[1]] (packF [[1]]) 0 _ (C_cells (inner := [.slice (some ⟨w.heap.size, 0, none⟩) 1 1]) h2 ⟨rfl, fun j p hp => by
    match j, hp with
    | 0, hp => cases hp; exact ⟨_, _, rfl, Nat.le_refl _, Kd.C_alloc h1 _⟩
    | j + 1, hp => simp at hp⟩ (by simp)) (Nat.le_refl _) (by unfold wal_Pack.f; rw [if_neg (by decide)])
set_option maxRecDepth 100000 in
set_option maxHeartbeats 16000000 in
theorem walkTopDisk (W : World) (l : List S100) (A : Option Addr) (c : Nat) (hc : l.length ≤ c) (C : Kd.C k100 W A l.length l) {ok0 : Prop} (_ok0 : ok0) (b : List Int) (B : Option Addr) (cb : Nat) (hcb : b.length ≤ cb) (Cb : Kd.C (Kd.int .u8) W B b.length b) {ok1 : Prop} (_ok1 : ok1) (n : Int) {ok2 : Prop} (_ok2 : ok2) :
    Calls Try.prog 15 #[.slice A l.length c, .slice B b.length cb, .int .i64 n] W fun e w' => e = .returned (.bool true) ∧ Below W.heap.size W w' := by
  have H40 := Aside0.mk (acts30 A c l W C hc)
  have HCb := Aside0.mk Cb
  have HCB := Aside0.mk hcb
  clear C hc Cb _ok0 _ok1 _ok2
  go_enter Try.func15, Try.ntmps15
  go_upto_region 3 with (first
    | (go_at_call 40; refine H40.out.mono ?_; rintro e w1 ⟨v1, la, rfl, ho, hl, hk, hb⟩; have hla : la.length ≤ 30 := (by omega); clear hl; obtain ⟨A1, c1, rfl⟩ := Kd.R_slice ho; have HO1 := Aside0.mk ho; have HB1 := Aside0.mk hb; have HK := Aside0.mk hk; clear ho hb hk)
    | ((with_reducible refine gate_builtin (b := .append) (xs := #[.const (.slice none 0 0), .tmp 23]) rfl ?_); at_builtin; refine Kd.R_append_rows k67 (w0 := W) W.heap.size rfl (.const (.slice none 0 0)) (.tmp 23) 57 67 _ 56 rfl Try.underlying57 info67 rfl (by decide) (by omega) (.slice none 0 0) [] la _ _ _ (fun _ => True) (fun _ => True) rfl rfl (Kd.R_nil _ _ _ _ _) (R_rows HO1.out) (fun x cs h => h) (fun _ _ => ⟨trivial, by simp [Value.ownBlock]⟩) (fun _ _ => trivial) HB1.out (below_size HB1.out) (by simp only [List.length_nil]; omega) ?_; intro v2 w2 ho hb hg hat; rw [List.nil_append] at ho; obtain ⟨A2, c2, rfl⟩ := Kd.R_slice ho; have HO2 := Aside0.mk ho; have HB2 := Aside0.mk hb; clear ho hb hg hat)
    | ((with_reducible refine gate_builtin (b := .append) (xs := #[.tmp 24, .tmp 26]) rfl ?_); at_builtin; refine Kd.R_append k67 (w0 := W) W.heap.size rfl (.tmp 24) (.tmp 26) 57 67 _ 56 rfl Try.underlying57 info67 rfl (by decide) (by omega) (.slice A2 la.length c2) la allA [.int .i64 3, .slice none 0 0, .string ⟨#[]⟩, .int .i64 0] (fun _ => True) (fun _ => False) rfl rfl (k67_mkM _ _ _ allA (Kd.R_nil _ _ _ _ _)) (fun _ h => h.elim) (fun _ _ => trivial) HO2.out HB2.out (below_size HB2.out) (by omega) ?_; intro v3 w3 ho hb hg hat; obtain ⟨A3, c3, rfl⟩ := Kd.R_slice ho; have HO3 := Aside0.mk (Kd.R_reads' ho); have HB3 := Aside0.mk hb; have H38 := Aside0.mk (store_Play A3 c3 (la ++ [allA]) w3 HO3.out.2.2 HO3.out.2.1 (by intro a ha; rcases List.mem_append.1 ha with ha | ha; exact Nat.le_trans (HK.out a ha) (by omega); rw [List.mem_singleton.1 ha]; exact Nat.zero_le _)); obtain ⟨told, file, t, hsp, htl, hinv⟩ := splay_all la (by omega); rw [hsp, List.length_append, List.length_singleton] at H38; have HT := Aside0.mk htl; have HI := Aside0.mk hinv; clear ho hb hg hat hsp htl hinv)
    | (go_at_call 38; refine H38.out.mono ?_; rintro e w4 ⟨vc, vd, rfl, ho1, ho2, hb⟩; obtain ⟨Ac, cc, rfl⟩ := Kd.R_slice ho1; obtain ⟨Ad, cd, rfl⟩ := Kd.R_slice ho2; have HB4 := Aside0.mk (below_step HB3.out hb); have HOc := Aside0.mk (Kd.R_reads' ho1); have HOd := Aside0.mk (Kd.R_reads' ho2); clear ho1 ho2 hb))
  obtain ⟨m, hm⟩ : ∃ m, m = min b.length 20 := ⟨_, rfl⟩
  have hmn : (min (b.length : Int) 20).toNat = m := by omega
  have hm1 : 0 ≤ min (b.length : Int) 20 := by omega
  have hm2 : min (b.length : Int) 20 ≤ (cb : Int) := by omega
  have hm3 : m ≤ 20 := by omega
  have hmb : m ≤ b.length := by omega
  obtain ⟨noise, hno⟩ : ∃ noise, noise = b.take m := ⟨_, rfl⟩
  have hnl : noise.length = m := by rw [hno, List.length_take]; omega
  have HCn : Aside0 ((Kd.int .u8).C w4 B m noise) := ⟨by have h := Kd.C_take (Kd.C_below HCb.out HB4.out) hmb; rw [← hno, hnl] at h; exact h⟩
  have HNL := Aside0.mk hnl
  have hfl : file.length ≤ 1200 := HI.out.short
  clear hm hno hnl
  go_upto_region 4 with (first
    | ((with_reducible refine gate_builtin (b := .append) (xs := #[.const (.slice none 0 0), .tmp 36]) rfl ?_); at_builtin; refine Kd.R_append_rows (Kd.int .u8) (w0 := W) W.heap.size rfl (.const (.slice none 0 0)) (.tmp 36) 36 5 _ 1 rfl Try.underlying36 info5 rfl (by decide) (by omega) (.slice none 0 0) [] noise _ _ _ (fun _ => True) (fun _ => False) rfl rfl (Kd.R_nil _ _ _ _ _) HCn.out (fun x cs h => h) (fun _ h => h.elim) (fun _ _ => trivial) HB4.out (below_size HB4.out) (by simp only [List.length_nil]; omega) ?_; intro v5 w5 ho hb hg hat; rw [List.nil_append] at ho; obtain ⟨A5, c5, rfl⟩ := Kd.R_slice ho; have HO5 := Aside0.mk (Kd.R_reads' ho); have HB5 := Aside0.mk hb; have HX5 := Aside0.mk ((ModT.of_grown (T := []) (B := w4.heap.size) hg (by intro k hk; simp [Value.ownBlock] at hk)).own rfl); have HOd5 := Aside0.mk (Kd.C_below HOd.out.2.2 HX5.out); clear ho hb hg hat))
  obtain ⟨r, hr⟩ : ∃ r, Aside0 (r = playF (noisy file noise)) := ⟨_, ⟨rfl⟩⟩
  have hpn := play_noisy file noise hfl
  rw [← hr.out] at hpn
  obtain ⟨pc, pd, pe⟩ := r
  simp only at hpn
  obtain ⟨rfl, rfl⟩ := hpn
  have HR := hr
  clear hr
  go_upto_region 5 with (first
    | ((with_reducible refine gate_builtin (b := .append) (xs := #[.const (.slice none 0 0), .tmp 39]) rfl ?_); at_builtin; refine Kd.R_append_rows (Kd.int .u8) (w0 := W) W.heap.size rfl (.const (.slice none 0 0)) (.tmp 39) 36 5 _ 1 rfl Try.underlying36 info5 rfl (by decide) (by omega) (.slice none 0 0) [] pd _ _ _ (fun _ => True) (fun _ => False) rfl rfl (Kd.R_nil _ _ _ _ _) HOd5.out (fun x cs h => h) (fun _ h => h.elim) (fun _ _ => trivial) HB5.out (below_size HB5.out) (by simp only [List.length_nil]; omega) ?_; intro v6 w6 ho hb hg hat; rw [List.nil_append] at ho; obtain ⟨A6, c6, rfl⟩ := Kd.R_slice ho; have HO6 := Aside0.mk (Kd.R_reads' ho); have HB6 := Aside0.mk hb; have hb56 := ((ModT.of_grown (T := []) (B := w5.heap.size) hg (by intro k hk; simp [Value.ownBlock] at hk)).own rfl); have HOd6 := Aside0.mk (Kd.C_below HOd5.out hb56); have HOn6 := Aside0.mk (Kd.C_below HO5.out.2.2 hb56); have H35 : Aside0 (Calls Try.prog 35 #[.slice (some ⟨w6.heap.size, 0, none⟩) 4 4] (w6.alloc (.cells #[.int .i64 1, .slice A6 pd.length c6, .int .i64 0, .int .i64 2, .slice none 0 0, .int .i64 0, .int .i64 1, .slice A5 noise.length c5, .int .i64 0, .int .i64 4, .slice none 0 0, .int .i64 0] 72)) (Play2 (w6.alloc (.cells #[.int .i64 1, .slice A6 pd.length c6, .int .i64 0, .int .i64 2, .slice none 0 0, .int .i64 0, .int .i64 1, .slice A5 noise.length c5, .int .i64 0, .int .i64 4, .slice none 0 0, .int .i64 0] 72)) (pc, pd, 0))) := ⟨HR.out ▸ moves_walk w6 pd noise A6 A5 c6 c5 HO6.out.2.2 HO6.out.2.1 HOn6.out HO5.out.2.1 (by omega) (by have := HNL.out; omega)⟩; have HX6 := Aside0.mk (below_step HX5.out hb56); clear ho hb hg hat hb56)
    | (go_at_call 35; refine H35.out.mono ?_; rintro e w7 ⟨vc, vd, rfl, ho1, ho2, hb⟩; obtain ⟨A7, c7, rfl⟩ := Kd.R_slice ho1; obtain ⟨Al, cl, rfl⟩ := Kd.R_slice ho2; have hb67 := below_step (below_alloc (Below.refl _ _) _) hb; have HB7 := Aside0.mk (below_step HB6.out hb67); have HOl := Aside0.mk (Kd.R_reads' ho2); have HOd7 := Aside0.mk (Kd.C_below HOd6.out hb67); have HX7 := Aside0.mk (below_step HX6.out hb67); clear ho1 ho2 hb hb67))
  go_upto_region 7 with (first
    | ((with_reducible refine gate_builtin (b := .append) (xs := #[.const (.slice none 0 0), .tmp 52]) rfl ?_); at_builtin; refine Kd.R_append_rows (Kd.int .u8) (w0 := W) W.heap.size rfl (.const (.slice none 0 0)) (.tmp 52) 36 5 _ 1 rfl Try.underlying36 info5 rfl (by decide) (by omega) (.slice none 0 0) [] pd _ _ _ (fun _ => True) (fun _ => False) rfl rfl (Kd.R_nil _ _ _ _ _) HOl.out.2.2 (fun x cs h => h) (fun _ h => h.elim) (fun _ _ => trivial) HB7.out (below_size HB7.out) (by simp only [List.length_nil]; omega) ?_; intro v8 w8 ho hb hg hat; rw [List.nil_append] at ho; obtain ⟨A8, c8, rfl⟩ := Kd.R_slice ho; have HO8 := Aside0.mk (Kd.R_reads' ho); have HB8 := Aside0.mk hb; have hb78 := ((ModT.of_grown (T := []) (B := w7.heap.size) hg (by intro k hk; simp [Value.ownBlock] at hk)).own rfl); have HOd8 := Aside0.mk (Kd.C_below HOd7.out hb78); have HOl8 := Aside0.mk (Kd.C_below HOl.out.2.2 hb78); have H36 := Aside0.mk (recover_walk A8 c8 pd w8 HO8.out.2.2 HO8.out.2.1 HI.out.byte); rw [recover_file HI.out] at H36; have HX8 := Aside0.mk (below_step HX7.out hb78); clear ho hb hg hat hb78)
    | (go_at_call 36; refine H36.out.mono ?_; rintro e w9 ⟨va, rfl, ho, hb⟩; obtain ⟨A9, c9, rfl⟩ := Kd.R_slice ho; have HB9 := Aside0.mk (below_step HB8.out hb); have HO9 := Aside0.mk (Kd.R_reads' ho); have HOd9 := Aside0.mk (Kd.C_below HOd8.out hb); have HOl9 := Aside0.mk (Kd.C_below HOl8.out hb); have H27 := Aside0.mk (one_walk w9); have HX9 := Aside0.mk (below_step HX8.out hb); clear ho hb)
    | (go_at_call 27; refine H27.out.mono ?_; rintro e w10 ⟨vp, rfl, ho, hb⟩; obtain ⟨Ap, cp, hvp⟩ := Kd.R_slice ho; have hpl : (packF [[1]]).length = 5 := (by decide); rw [hpl] at hvp; subst hvp; have hb9 := below_step (below_alloc (below_alloc (Below.refl _ _) _) _) hb; have HB10 := Aside0.mk (below_step HB9.out hb9); have HO10 := Aside0.mk (Kd.C_below HO9.out.2.2 hb9); have HOd10 := Aside0.mk (Kd.C_below HOd9.out hb9); have HOl10 := Aside0.mk (Kd.C_below HOl9.out hb9); have HX10 := Aside0.mk (below_step HX9.out hb9); clear ho hb hb9 hpl))
  have htl := HT.out
  have HOc10 := Kd.C_below HOc.out.2.2 HX10.out
  obtain ⟨ad, At, ct, rfl, x0, x1, lt, gt⟩ := at_T62 HOc10 (told.length : Int) (by omega) (by rw [List.length_append, List.length_singleton]; omega)
  have hrd : rd_T62 (told ++ [⟨0, t⟩]) (told.length : Int) = ⟨0, t⟩ := by
    unfold rd_T62
    rw [Int.toNat_natCast, List.getD_eq_getElem?_getD, List.getElem?_append_right (Nat.le_refl _)]
    simp
  rw [hrd] at x0 x1 lt gt
  simp only at x0 x1 lt gt
  rw [Int.toNat_natCast, htl] at x1
  have GT := Aside0.mk gt
  have htt : t.length ≤ 40 := HI.out.len
  have hB10 : Below W.heap.size W w10 := HB10.out
  clear HOc10 gt hrd x0
  go_wp2_with (first
    | (go_at_call 42; refine (topBytes_walk Al Ad cl cd pd w10 HOl10.out HOl.out.2.1 HOd10.out HOd.out.2.1 (by omega)).mono ?_; rintro e w11 ⟨rfl, hd⟩; have hb11 := hd.below; have HB11 := Aside0.mk (below_step HB10.out hb11); have x1' := (hb11.cell (World.block_lt_of_cell? w10 _ x1)).trans x1; have HO11 := Aside0.mk (Kd.C_below HO10.out hb11); have GT11 := Aside0.mk (Kd.C_below GT.out hb11); clear hd hb11)
    | (go_at_call 41; refine (topRows_walk A9 At c9 ct t w11 HO11.out HO9.out.2.1 GT11.out lt (by omega)).mono ?_; rintro e w12 ⟨rfl, hd⟩; have HB12 := Aside0.mk (below_step HB11.out hd.below); clear hd))
  go_ret
  exact ⟨rfl, HB12.out⟩
end Go.Proofs.Ytnjidfgjldkkcaa.Pure
/- Plain laws for the log: the batches of a store's file, and what they make. -/
namespace Go.Proofs.Ytnjidfgjldkkcaa.Plain
open Go.RowKit Go.Proofs.Ytnjidfgjldkkcaa.Q Go.Proofs.Ytnjidfgjldkkcaa.Pure Go.Proofs.YtnjidfgjldkkcaaW.PrintWords
/-- A store between its acts; no batch is great. -/
def SInv2 (data : List Int) (t : List S69) : Prop := ∃ F, GoodL [] F ∧ (∀ cs ∈ F, cs.length ≤ 60) ∧ data = dataL F ∧ t = tableL [] F ∧ data.length ≤ 1200
theorem SInv2.one {d : List Int} {t : List S69} (h : SInv2 d t) : SInv d t := by
  obtain ⟨F, h1, _, h3, h4, h5⟩ := h
  exact ⟨F, h1, h3, h4, h5⟩
theorem SInv2.nil : SInv2 [] [] := ⟨[], trivial, by simp, rfl, rfl, by simp⟩
theorem SInv2.commit {data : List Int} {t cs : List S69} (h : SInv2 data t) (hc : sfaultF data t cs = 0) : SInv2 (data ++ batchF cs) (changedF t cs) := by
  obtain ⟨F, hF, hs, rfl, rfl, hl⟩ := h
  obtain ⟨h1, h2, h3⟩ := sfaultF_ok hc
  obtain ⟨h4, h5, h6⟩ := faultF_ok h2
  refine ⟨F ++ [cs], goodL_snoc F [] cs hF (by rintro rfl; exact h1 rfl) (okR_of h5) h6, ?_, ?_, ?_, by rw [List.length_append]; omega⟩
  · intro x hx
    rcases List.mem_append.1 hx with hx | hx
    · exact hs x hx
    · rw [List.mem_singleton.1 hx]; exact h4
  · unfold dataL; rw [List.flatMap_append]; simp
  · unfold tableL; rw [List.foldl_append]; rfl
theorem SInv2.pack {data : List Int} {t : List S69} (h : SInv2 data t) : SInv2 (batchF t) t := by
  have hb := h.one.batch
  have ha := h.one.asc
  have hf := h.one.full
  have hl := h.one.len
  by_cases ht : t = []
  · subst ht; exact SInv2.nil
  have e : changedF [] t = t := changed_self t [] ha hf
  exact ⟨[t], ⟨ht, fun r hr => (hf r hr).1, by rw [e]; exact hl, trivial⟩, fun cs hc => by rw [List.mem_singleton.1 hc]; omega, by simp [dataL], by unfold tableL; exact e.symm, hb⟩
theorem actF_inv2 {d : List Int} {t : List S69} (h : SInv2 d t) (a : S67) : SInv2 (actF d t a).2.1 (actF d t a).2.2 := by
  unfold actF
  by_cases h1 : a.f0 = 1
  · rw [if_pos h1]
    by_cases hf : sfaultF d t a.f1 = 0
    · rw [if_neg (by simp [hf])]; exact h.commit hf
    · rw [if_pos hf]; exact h
  rw [if_neg h1]
  by_cases h2 : a.f0 = 2
  · rw [if_pos h2]; exact h
  rw [if_neg h2]
  by_cases h3 : a.f0 = 3
  · rw [if_pos h3]; exact h
  rw [if_neg h3]
  by_cases h4 : a.f0 = 4
  · rw [if_pos h4]; exact h.pack
  rw [if_neg h4]
  by_cases h5 : a.f0 = 5
  · rw [if_pos h5]
    by_cases hf : crashCode d t a.f1 a.f3 = 0
    · rw [if_neg (by simp [hf])]
      by_cases hn : a.f3 < ((batchF a.f1).length : Int)
      · rw [if_pos hn]; exact h
      · rw [if_neg hn]; exact h.commit (crash_zero hf).2
    · rw [if_pos hf]; exact h
  rw [if_neg h5]; exact h
theorem actsF_inv2 : ∀ (l : List S67) (d : List Int) (t : List S69), SInv2 d t → SInv2 (actsF l d t).2.1 (actsF l d t).2.2
  | [], _, _, h => h
  | a :: l, _, _, h => actsF_inv2 l _ _ (actF_inv2 h a)
theorem splay_all2 (l : List S67) (h : l.length ≤ 99) : ∃ told file t, splayF (l ++ [allA]) = (told ++ [⟨0, t⟩], file, 0) ∧ told.length = l.length ∧ SInv2 file t := by
  obtain ⟨_, h1⟩ := actsF_inv l [] [] SInv.nil
  refine ⟨(actsF l [] []).1, (actsF l [] []).2.1, (actsF l [] []).2.2, ?_, h1, actsF_inv2 l [] [] SInv2.nil⟩
  unfold splayF
  rw [if_neg (by rw [List.length_append, List.length_singleton]; omega), actsF_append]
  have e : actF (actsF l [] []).2.1 (actsF l [] []).2.2 allA = ((0, (actsF l [] []).2.2), (actsF l [] []).2.1, (actsF l [] []).2.2) := by
    unfold actF allA
    rw [if_neg (by simp), if_neg (by simp), if_pos rfl, beginF_nil]
  simp only [actsF, e]
theorem faultFrom_zero : ∀ (p : Option ByteArray) (l : List S69), (∀ r ∈ l, FullR r) → Asc l → (∀ q, p = some q → ∀ r ∈ l, kl q r.f0 = true) → faultFrom p l = 0
  | _, [], _, _, _ => rfl
  | p, r :: t, hf, ha, hp => by
    obtain ⟨⟨h1, h2, h3⟩, h4⟩ := hf r List.mem_cons_self
    obtain ⟨a1, a2⟩ := List.pairwise_cons.1 ha
    unfold faultFrom
    rw [if_neg (by omega), if_neg (by
      intro e
      refine h4 (List.eq_nil_of_length_eq_zero ?_)
      rw [Go.ByteArray.toList_eq, Array.length_toList]
      exact e), if_pos, faultFrom_zero (some r.f0) t (fun x hx => hf x (List.mem_cons_of_mem _ hx)) a2 (fun q hq x hx => by cases hq; exact a1 x hx)]
    cases p with
    | none => rfl
    | some q => exact hp q rfl r List.mem_cons_self
theorem rowsErr_nought {l : List S69} (hl : l.length ≤ 40) (hf : ∀ r ∈ l, FullR r) (ha : Asc l) : rowsErr l = 0 := by
  unfold rowsErr
  rw [if_neg (by omega)]
  exact faultFrom_zero none l hf ha (by simp)
/-- What a file's batches are, and what they make. -/
structure LogOk (file : List Int) (t : List S69) (F : List (List S69)) : Prop where
  scan : scanF file = (F.map (·.map recordF), (file.length : Int), 0)
  table : t = tableL [] F
  short : file.length ≤ 1200
  tlen : t.length ≤ 40
  count : F.length ≤ 1200
  each : ∀ cs ∈ F, cs.length ≤ 60 ∧ ∀ r ∈ cs, OkR r
  step : ∀ i (h : i < F.length), setF (tableL [] (F.take i)) F[i] = (tableL [] (F.take (i + 1)), 0)
  tabs : ∀ i, (tableL [] (F.take i)).length ≤ 40
theorem goodL_take : ∀ (F : List (List S69)) (t : List S69) (i : Nat), GoodL t F → GoodL t (F.take i)
  | _, _, 0, _ => trivial
  | [], _, _ + 1, h => h
  | _ :: F, _, i + 1, h => ⟨h.1, h.2.1, h.2.2.1, goodL_take F _ i h.2.2.2⟩
theorem goodL_at : ∀ (F : List (List S69)) (t : List S69) (i : Nat) (hi : i < F.length), GoodL t F → (∀ r ∈ F[i], OkR r) ∧ F[i] ≠ [] ∧ (changedF (tableL t (F.take i)) F[i]).length ≤ 40
  | c :: F, t, 0, _, h => ⟨h.2.1, h.1, h.2.2.1⟩
  | c :: F, t, i + 1, hi, h => goodL_at F _ i (by simpa using hi) h.2.2.2
theorem SInv2.log {file : List Int} {t : List S69} (h : SInv2 file t) : ∃ F, LogOk file t F := by
  have hl1 := h.one.len
  obtain ⟨F, hF, hs, hd, ht, hl⟩ := h
  have hg : ∀ i, GoodL [] (F.take i) := fun i => goodL_take F [] i hF
  have hlen : ∀ i, (tableL [] (F.take i)).length ≤ 40 := fun i => len_table _ [] (hg i) (by simp)
  refine ⟨F, ?_, ht, hl, hl1, ?_, fun cs hc => ⟨hs cs hc, ?_⟩, fun i hi => ?_, hlen⟩
  · have := readF_file (F.map (·.map recordF)) [] 0 (fileOk_good F [] hF) (by simp) (.inr rfl)
    rw [← dataL_flat, List.take_zero, List.append_nil, ← hd] at this
    unfold scanF
    rw [if_neg (by omega), this]
  · have h1 := flatF_ge (F.map (·.map recordF))
    rw [← dataL_flat, ← hd] at h1
    have h2 : ∀ G : List (List S69), (∀ cs ∈ G, cs ≠ []) → G.length ≤ ((G.map (·.map recordF)).map List.length).sum := by
      intro G
      induction G with
      | nil => intro _; simp
      | cons c G ih =>
        intro hG
        have := ih (fun x hx => hG x (List.mem_cons_of_mem _ hx))
        have hc : 0 < c.length := List.length_pos_iff.2 (hG c List.mem_cons_self)
        simp only [List.map_cons, List.length_cons, List.sum_cons, List.length_map]
        omega
    have := h2 F (fun cs hc => by
      obtain ⟨i, hi, rfl⟩ := List.mem_iff_getElem.1 hc
      exact (goodL_at F [] i hi hF).2.1)
    omega
  · obtain ⟨i, hi, rfl⟩ := List.mem_iff_getElem.1 hc
    exact (goodL_at F [] i hi hF).1
  · obtain ⟨h1, h2, h3⟩ := goodL_at F [] i hi hF
    have e : tableL [] (F.take (i + 1)) = changedF (tableL [] (F.take i)) F[i] := by
      rw [List.take_succ_eq_append_getElem hi]
      unfold tableL
      rw [List.foldl_append]
      rfl
    have hr : rowsErr (tableL [] (F.take i)) = 0 := rowsErr_nought (hlen i) (full_table _ [] (hg i) (by simp)) (asc_table _ [] List.Pairwise.nil)
    have hf : faultF (tableL [] (F.take i)) F[i] = 0 := by
      unfold faultF
      rw [if_neg (by have := hs F[i] (List.getElem_mem hi); omega), if_neg (by
        intro hc
        obtain ⟨r, hr, ho⟩ := List.any_eq_true.1 hc
        have := h1 r hr
        unfold oddR at ho
        have ho := of_decide_eq_true ho
        unfold OkR at this
        omega), if_neg (by omega)]
    unfold setF
    rw [if_neg (by simp [hr]), if_neg (by simp [hf]), e]
end Go.Proofs.Ytnjidfgjldkkcaa.Plain
/- The changes in the batches of a store's file give its table: the law returns true; no condition. -/
namespace Go.Proofs.Ytnjidfgjldkkcaa.Pure
open Go.RowKit Go.Proofs.Ytnjidfgjldkkcaa.Q Go.Proofs.YtnjidfgjldkkcaaW.PrintWords Go.Proofs.Ytnjidfgjldkkcaa.Plain
theorem acts40 (A : Option Addr) (c : Nat) (l : List S100) (w : World) (hr : Kd.C k100 w A l.length l) (hc : l.length ≤ c) :
    Calls Try.prog 40 #[.slice A l.length c, .int .i64 40] w fun e w' => ∃ v la, e = .returned v ∧ k67.R 67 w' w.heap.size (fun _ => True) v la ∧ la.length = min l.length 40 ∧ (∀ a ∈ la, a.f2.size ≤ 2) ∧ Below w.heap.size w w' := acts_walk A c l 40 w hr hc (by omega)
theorem rdL5_map {F : List (List S69)} {i : Nat} (h : i < F.length) : rd_L5 (F.map (·.map recordF)) (i : Int) = F[i].map recordF := by
  unfold rd_L5
  rw [Int.toNat_natCast, List.getD_eq_getElem?_getD, List.getElem?_map, List.getElem?_eq_getElem h]
  rfl
theorem rdL4_map {cs : List S69} {i : Nat} (h : i < cs.length) : rd_L4 (cs.map recordF) (i : Int) = recordF cs[i] := by
  unfold rd_L4
  rw [Int.toNat_natCast, List.getD_eq_getElem?_getD, List.getElem?_map, List.getElem?_eq_getElem h]
  rfl
theorem record_head (r : S69) : rd (recordF r) 0 = (r.f0.size : Int) := by
  rw [show (0 : Int) = ((0 : Nat) : Int) from rfl]
  exact rd_get rfl
theorem record_key (r : S69) : strOfNums (((recordF r).take (r.f0.size + 1)).drop 1) = r.f0 := by
  unfold recordF
  rw [List.take_succ_cons, List.drop_succ_cons, List.drop_zero, List.take_left' (bytesOf_length _), str_bytesOf]
theorem record_value (r : S69) : strOfNums ((recordF r).drop (r.f0.size + 1)) = r.f1 := by
  unfold recordF
  rw [List.drop_succ_cons, List.drop_left' (bytesOf_length _), str_bytesOf]
theorem scan_walk {file : List Int} {t : List S69} {F : List (List S69)} (h : LogOk file t F) (A : Option Addr) (c : Nat) (w : World) (hr : Kd.C (Kd.int .u8) w A file.length file) (hc : file.length ≤ c) :
    Calls Try.prog 30 #[.slice A file.length c] w fun e w' => ∃ v0_ : Value, e = .returned (.tuple #[v0_, .int .i64 (file.length : Int), .int .i64 0]) ∧ Kd.R kBB 35 w' w.heap.size (fun _ => True) v0_ (F.map (·.map recordF)) ∧ Below w.heap.size w w' :=
  wal_Scan.calls A c file _ _ _ w hr hc (by unfold wal_Scan.f; rw [h.scan])
theorem setF_one : setF [] [⟨⟨#[107]⟩, ⟨#[118]⟩⟩] = ([⟨⟨#[107]⟩, ⟨#[118]⟩⟩], 0) := by
  have h1 : changedF [] [⟨⟨#[107]⟩, ⟨#[118]⟩⟩] = [(⟨⟨#[107]⟩, ⟨#[118]⟩⟩ : S69)] := changed_self [⟨⟨#[107]⟩, ⟨#[118]⟩⟩] [] (by unfold Asc; simp) (fun r hr => by
    rw [List.mem_singleton.1 hr]
    exact ⟨⟨by decide, by decide, by decide⟩, by rw [Go.ByteArray.toList_eq]; simp⟩)
  have h2 : rowsErr [] = 0 := by unfold rowsErr; rw [if_neg (by simp)]; rfl
  have h3 : faultF [] [⟨⟨#[107]⟩, ⟨#[118]⟩⟩] = 0 := by
    unfold faultF
    rw [h1, if_neg (by simp), if_neg (by simp [oddR]; decide), if_neg (by simp)]
  unfold setF
  rw [if_neg (by simp [h2]), if_neg (by simp [h3]), h1]
theorem sure_walk (w : World) : Calls Try.prog 25 #[.slice none 0 0, .slice (some ⟨w.heap.size, 0, none⟩) 1 1] (w.alloc (.cells #[.string ⟨#[107]⟩, .string ⟨#[118]⟩] 69)) fun e w' => ∃ v c, e = .returned (.tuple #[.slice v 1 c, .int .i64 0]) ∧ Below w.heap.size w w' := by
  have h := rows_Set.calls none 0 [] (some ⟨w.heap.size, 0, none⟩) 1 [⟨⟨#[107]⟩, ⟨#[118]⟩⟩] [⟨⟨#[107]⟩, ⟨#[118]⟩⟩] 0 (w.alloc (.cells #[.string ⟨#[107]⟩, .string ⟨#[118]⟩] 69)) (Kd.C_nil _ _) (Nat.le_refl _) (C_cells (xs := [(⟨⟨#[107]⟩, ⟨#[118]⟩⟩ : S69)]) (inner := [.string ⟨#[107]⟩, .string ⟨#[118]⟩]) (blk_new w _) ⟨rfl, fun j p hp => by
    match j, hp with
    | 0, hp => cases hp; exact k69_mk _ (⟨⟨#[107]⟩, ⟨#[118]⟩⟩ : S69)
    | j + 1, hp => simp at hp⟩ (by simp)) (Nat.le_refl _) (by unfold rows_Set.f; rw [setF_one])
  refine h.mono fun e w' ⟨v, h1, h2, h3⟩ => ?_
  obtain ⟨A, c, rfl⟩ := Kd.R_slice h2
  exact ⟨A, c, h1, below_step (below_alloc (Below.refl _ _) _) h3⟩
set_option maxRecDepth 100000 in
set_option maxHeartbeats 16000000 in
theorem walkTopLog (W : World) (l : List S100) (A : Option Addr) (c : Nat) (hc : l.length ≤ c) (C : Kd.C k100 W A l.length l) {ok0 : Prop} (_ok0 : ok0) :
    Calls Try.prog 14 #[.slice A l.length c] W fun e w' => e = .returned (.bool true) ∧ Below W.heap.size W w' := by
  have H40 := Aside0.mk (acts40 A c l W C hc)
  clear C hc _ok0
  go_enter Try.func14, Try.ntmps14
  go_upto_region 4 with (first
    | (go_at_call 40; refine H40.out.mono ?_; rintro e w1 ⟨v1, la, rfl, ho, hl, hk, hb⟩; have hla : la.length ≤ 40 := (by omega); clear hl; obtain ⟨A1, c1, rfl⟩ := Kd.R_slice ho; have HO1 := Aside0.mk ho; have HB1 := Aside0.mk hb; have HK := Aside0.mk hk; clear ho hb hk)
    | ((with_reducible refine gate_builtin (b := .append) (xs := #[.const (.slice none 0 0), .tmp 22]) rfl ?_); at_builtin; refine Kd.R_append_rows k67 (w0 := W) W.heap.size rfl (.const (.slice none 0 0)) (.tmp 22) 57 67 _ 56 rfl Try.underlying57 info67 rfl (by decide) (by omega) (.slice none 0 0) [] la _ _ _ (fun _ => True) (fun _ => True) rfl rfl (Kd.R_nil _ _ _ _ _) (R_rows HO1.out) (fun x cs h => h) (fun _ _ => ⟨trivial, by simp [Value.ownBlock]⟩) (fun _ _ => trivial) HB1.out (below_size HB1.out) (by simp only [List.length_nil]; omega) ?_; intro v2 w2 ho hb hg hat; rw [List.nil_append] at ho; obtain ⟨A2, c2, rfl⟩ := Kd.R_slice ho; have HO2 := Aside0.mk ho; have HB2 := Aside0.mk hb; clear ho hb hg hat)
    | ((with_reducible refine gate_builtin (b := .append) (xs := #[.tmp 23, .tmp 25]) rfl ?_); at_builtin; refine Kd.R_append k67 (w0 := W) W.heap.size rfl (.tmp 23) (.tmp 25) 57 67 _ 56 rfl Try.underlying57 info67 rfl (by decide) (by omega) (.slice A2 la.length c2) la allA [.int .i64 3, .slice none 0 0, .string ⟨#[]⟩, .int .i64 0] (fun _ => True) (fun _ => False) rfl rfl (k67_mkM _ _ _ allA (Kd.R_nil _ _ _ _ _)) (fun _ h => h.elim) (fun _ _ => trivial) HO2.out HB2.out (below_size HB2.out) (by omega) ?_; intro v3 w3 ho hb hg hat; obtain ⟨A3, c3, rfl⟩ := Kd.R_slice ho; have HO3 := Aside0.mk (Kd.R_reads' ho); have HB3 := Aside0.mk hb; have H38 := Aside0.mk (store_Play A3 c3 (la ++ [allA]) w3 HO3.out.2.2 HO3.out.2.1 (by intro a ha; rcases List.mem_append.1 ha with ha | ha; exact Nat.le_trans (HK.out a ha) (by omega); rw [List.mem_singleton.1 ha]; exact Nat.zero_le _)); obtain ⟨told, file, t, hsp, htl, hinv⟩ := splay_all2 la (by omega); rw [hsp, List.length_append, List.length_singleton] at H38; have HT := Aside0.mk htl; obtain ⟨F, hF⟩ := hinv.log; have HF := Aside0.mk hF; have hfl : file.length ≤ 1200 := hF.short; clear ho hb hg hat hsp htl hinv hF)
    | (go_at_call 38; refine H38.out.mono ?_; rintro e w4 ⟨vc, vd, rfl, ho1, ho2, hb⟩; obtain ⟨Ac, cc, hvc⟩ := Kd.R_slice ho1; rw [List.length_append, List.length_singleton, HT.out] at hvc; subst hvc; obtain ⟨Ad, cd, rfl⟩ := Kd.R_slice ho2; have HB4 := Aside0.mk (below_step HB3.out hb); have HOc := Aside0.mk (Kd.R_reads' ho1); have HOd := Aside0.mk (Kd.R_reads' ho2); clear ho1 ho2 hb)
    | ((with_reducible refine gate_builtin (b := .append) (xs := #[.const (.slice none 0 0), .tmp 32]) rfl ?_); at_builtin; refine Kd.R_append_rows (Kd.int .u8) (w0 := W) W.heap.size rfl (.const (.slice none 0 0)) (.tmp 32) 36 5 _ 1 rfl Try.underlying36 info5 rfl (by decide) (by omega) (.slice none 0 0) [] file _ _ _ (fun _ => True) (fun _ => False) rfl rfl (Kd.R_nil _ _ _ _ _) HOd.out.2.2 (fun x cs h => h) (fun _ h => h.elim) (fun _ _ => trivial) HB4.out (below_size HB4.out) (by simp only [List.length_nil]; omega) ?_; intro v5 w5 ho hb hg hat; rw [List.nil_append] at ho; obtain ⟨A5, c5, rfl⟩ := Kd.R_slice ho; have HO5 := Aside0.mk (Kd.R_reads' ho); have HB5 := Aside0.mk hb; have HX5 := Aside0.mk ((ModT.of_grown (T := []) (B := w4.heap.size) hg (by intro k hk; simp [Value.ownBlock] at hk)).own rfl); have H30 := Aside0.mk (scan_walk HF.out A5 c5 w5 HO5.out.2.2 HO5.out.2.1); clear ho hb hg hat)
    | (go_at_call 30; refine H30.out.mono ?_; rintro e w6 ⟨vs, rfl, ho, hb⟩; obtain ⟨A6, c6, rfl⟩ := Kd.R_slice ho; have HB6 := Aside0.mk (below_step HB5.out hb); have HX6 := Aside0.mk (below_step HX5.out hb); have HO6 := Aside0.mk (Kd.R_reads' ho); clear ho hb))
  go_wp2
  go_loopw [10, 11] (fun v10 v11 wr => ∃ i : Nat, v11 = .int .i64 i ∧ Aside0 (i ≤ F.length) ∧ Aside0 (k69.R 69 wr w6.heap.size (fun _ => True) v10 (tableL [] (F.take i))) ∧ Aside0 (Below w6.heap.size w6 wr)) (fun _ v11 _ => F.length - (intOf v11).toNat)
  case atStart => exact ⟨0, rfl, ⟨Nat.zero_le _⟩, ⟨Kd.R_nil _ _ _ _ _⟩, ⟨Below.refl _ _⟩⟩
  case round =>
    obtain ⟨i, rfl, hi, HV, HBr⟩ := hrel
    have hil := hi.out
    have hcount := HF.out.count
    by_cases hlt : i < F.length
    · obtain ⟨ad7, A8, c8, rfl, x8, l8, g8⟩ := at_L5 HO6.out.2.2 (i : Int) (by omega) (by rw [List.length_map]; omega)
      obtain ⟨cs, hcs⟩ : ∃ cs, cs = F[i] := ⟨_, rfl⟩
      rw [rdL5_map hlt, ← hcs] at x8 l8 g8
      rw [List.length_map, Int.toNat_natCast] at x8
      rw [List.length_map] at l8
      have hlt' : i < (F.map (·.map recordF)).length := by rw [List.length_map]; exact hlt
      have hok : cs.length ≤ 60 ∧ ∀ r ∈ cs, OkR r := HF.out.each cs (hcs ▸ List.getElem_mem hlt)
      have HOK := Aside0.mk hok.2
      have hcl := hok.1
      have hst : Aside0 (setF (tableL [] (F.take i)) cs = (tableL [] (F.take (i + 1)), 0)) := ⟨by rw [hcs]; exact HF.out.step i hlt⟩
      have G8 := Aside0.mk g8
      obtain ⟨A10, c10, rfl⟩ := Kd.R_slice HV.out
      obtain ⟨wo, hwo⟩ : ∃ x, x = wr := ⟨wr, rfl⟩
      subst hwo
      have x8' := (HBr.out.cell (World.block_lt_of_cell? w6 _ x8)).trans x8
      clear hcs hok g8 x8
      go_wp2
      go_loopw [12, 13, 14] (fun v12 v13 _ wr => ∃ k : Nat, v13 = .int .i64 k ∧ Aside0 (k ≤ cs.length) ∧ Aside0 (k69.R 69 wr wo.heap.size (fun _ => True) v12 (cs.take k)) ∧ Aside0 (Below wo.heap.size wo wr)) (fun _ v13 _ _ => cs.length - (intOf v13).toNat)
      case atStart => exact ⟨0, rfl, ⟨Nat.zero_le _⟩, ⟨Kd.R_nil _ _ _ _ _⟩, ⟨Below.refl _ _⟩⟩
      case round =>
        obtain ⟨k, rfl, hk, HC, HBi⟩ := hrel
        obtain ⟨A12, c12, rfl⟩ := Kd.R_slice HC.out
        have hkl := hk.out
        have x9 := (HBi.out.cell (World.block_lt_of_cell? wo _ x8')).trans x8'
        have hck : (cs.take k).length = k := by rw [List.length_take]; omega
        by_cases hkc : k < cs.length
        · obtain ⟨ad8, A9, c9, rfl, y9, l9, g9⟩ := at_L4 (Kd.C_below (Kd.C_below G8.out HBr.out) HBi.out) (k : Int) (by omega) (by rw [List.length_map]; omega)
          obtain ⟨q, hq⟩ : ∃ q, q = cs[k] := ⟨_, rfl⟩
          rw [rdL4_map hkc, ← hq] at y9 l9 g9
          rw [Int.toNat_natCast] at y9
          have hokq := HOK.out q (hq ▸ List.getElem_mem hkc)
          have hnext : Aside0 (cs.take (k + 1) = cs.take k ++ [q]) := ⟨by rw [List.take_succ_eq_append_getElem hkc, hq]⟩
          clear hq
          obtain ⟨ad9, rfl, x0⟩ := Kd.at_int g9 0 (by omega) (by rw [recordF_length]; omega)
          rw [record_head, show (0 : Int).toNat = 0 from rfl, show ad9.add 0 = ad9 from by unfold Addr.add; rw [if_pos rfl]] at x0
          have hrk := Aside0.mk (record_key q)
          have hrv := Aside0.mk (record_value q)
          have hrl := recordF_length q
          obtain ⟨hn1, hn2, hn3⟩ := hokq
          obtain ⟨n, hn⟩ : ∃ n, n = q.f0.size := ⟨_, rfl⟩
          rw [← hn] at hrk hrl hn1 hn2 x0
          generalize recordF q = b at y9 l9 g9 hrk hrv hrl
          rw [← hn] at hrv
          have hb1 : n + 1 ≤ b.length := by omega
          have hb2 : b.length ≤ 41 := by omega
          have hb3 : ((b.length : Int) == 0) = false := beq_false_of_ne (by omega)
          have hb4 : ¬ (b.length : Int) < (n : Int) + 1 := by omega
          have G9 := Aside0.mk g9
          have L9 := Aside0.mk l9
          clear hn hrl hn3 g9
          go_upto_region 17 with (fail)
          have ea1 : ad9.add 1 = ⟨ad9.block, ad9.off + 1, none⟩ := by unfold Addr.add; rw [if_neg (by omega)]
          have ea2 : ad9.add (n + 1) = ⟨ad9.block, ad9.off + (n + 1), none⟩ := by unfold Addr.add; rw [if_neg (by omega)]
          have hdv1 : ∀ W, Below wr.heap.size wr W → (convert 36 9 (.slice (some ⟨ad9.block, ad9.off + 1, none⟩) n (c9 - 1))).run Try.prog W = .ok (.string q.f0) W := fun W hW => by
            have hm1 := Kd.C_mid (lo := 1) (hi := n + 1) (Kd.C_below G9.out hW) (by omega) (by omega) L9.out
            rw [if_neg (show ¬ c9 = 1 by omega)] at hm1
            have hcv1 := Kd.C_string (P := Try.prog) (A := some (ad9.add 1)) (n := n) (c := c9 - 1) (xs := (b.take (n + 1)).drop 1) Try.underlying36 Try.underlying5 Try.underlying9 (by
              have := hm1
              rw [show ((b.take (n + 1)).drop 1).length = n by rw [List.length_drop, List.length_take]; omega] at this
              exact this)
            rw [hrk.out, ea1] at hcv1
            exact hcv1
          have hdv2 : ∀ W, Below wr.heap.size wr W → (convert 36 9 (.slice (if c9 = n + 1 then some ad9 else some ⟨ad9.block, ad9.off + (n + 1), none⟩) (b.length - (n + 1)) (c9 - (n + 1)))).run Try.prog W = .ok (.string q.f1) W := fun W hW => by
            have hm2 := Kd.C_drop (m := n + 1) (c := c9) (Kd.C_below G9.out hW) (by omega) L9.out
            have hcv2 := Kd.C_string (P := Try.prog) (n := b.length - (n + 1)) (c := c9 - (n + 1)) (xs := b.drop (n + 1)) Try.underlying36 Try.underlying5 Try.underlying9 (by
              have := hm2
              rw [List.length_drop] at this
              exact this)
            rw [hrv.out, show (Kd.int .u8).sz = 1 from rfl, Nat.mul_one, Option.map_some, ea2] at hcv2
            exact hcv2
          clear ea1 ea2
          have a1 : (1 : Int) ≤ 1 + (n : Int) := by omega
          have a2 : 1 + (n : Int) ≤ (b.length : Int) := by omega
          have a3 : (0 : Int) ≤ 1 + (n : Int) := by omega
          have a4 : IntKind.i64.wrap (1 + (n : Int)) = 1 + (n : Int) := IntWalk.i64_in _ (by omega)
          have a5 : (1 + (n : Int)).toNat = n + 1 := by omega
          have a6 : ¬ c9 = 1 := by omega
          have a7 : n + 1 ≤ c9 := by omega
          have a8 : 1 + (n : Int) ≤ (c9 : Int) := by omega
          have a9 : 0 < b.length := by omega
          have a10 : IntKind.i64.wrap (n : Int) = (n : Int) := IntWalk.i64_in _ (by omega)
          clear hb3 hb4
          refine wp_region_tail 19 (fun j v w => match j with
            | 0 => v = .slice A12 (cs.take k).length c12
            | 1 | 2 | 9 | 10 => v = .slice (some ad9) b.length c9
            | 3 | 11 => v = .pointer (some ad9)
            | 4 | 12 => v = .int .u8 n
            | 5 | 13 => v = .int .i64 n
            | 6 | 14 => v = .int .i64 (1 + (n : Int))
            | 7 => v = .slice (some ⟨ad9.block, ad9.off + 1, none⟩) n (c9 - 1)
            | 8 => v = .string q.f0
            | 15 => v = .slice (if c9 = n + 1 then some ad9 else some ⟨ad9.block, ad9.off + (n + 1), none⟩) (b.length - (n + 1)) (c9 - (n + 1))
            | 16 => v = .string q.f1
            | 17 => v = .agg #[.string q.f0, .string q.f1]
            | _ => ∃ g, wr.heap.size ≤ g ∧ v = .slice (some ⟨g, 0, none⟩) 1 1 ∧ w.heap[g]? = some (.cells #[.string q.f0, .string q.f1] 69 (0, 0))) (by kernel_rfl) (by kernel_rfl) ?_ ?_ ?_
          · intro j v w w' h hb
            rcases j with _ | _ | _ | _ | _ | _ | _ | _ | _ | _ | _ | _ | _ | _ | _ | _ | _ | _ | j
            all_goals first | exact h | (obtain ⟨g, h1, h2, h3⟩ := h; exact ⟨g, h1, h2, (hb.block g (blk_lt h3)).trans h3⟩)
          · intro j o a w hj ho hF hB hd
            have hw0 := (hB.cell (World.block_lt_of_cell? wr _ x0)).trans x0
            obtain rfl | rfl | rfl | rfl | rfl | rfl | rfl | rfl | rfl | rfl | rfl | rfl | rfl | rfl | rfl | rfl | rfl | rfl | rfl : j = 0 ∨ j = 1 ∨ j = 2 ∨ j = 3 ∨ j = 4 ∨ j = 5 ∨ j = 6 ∨ j = 7 ∨ j = 8 ∨ j = 9 ∨ j = 10 ∨ j = 11 ∨ j = 12 ∨ j = 13 ∨ j = 14 ∨ j = 15 ∨ j = 16 ∨ j = 17 ∨ j = 18 := by omega
            case inl =>
              cases ho
              have e0 := hF.get (k := 12) (by decide +kernel)
              change a.tmps.getD 12 undef = .slice A12 (cs.take k).length c12 at e0
              go_simp
              exact Below.refl _ _
            case inr.inl =>
              cases ho
              have e0 := hF.get (k := 14) (by decide +kernel)
              change a.tmps.getD 14 undef = .slice (some ad9) b.length c9 at e0
              go_simp
              exact Below.refl _ _
            case inr.inr.inl =>
              cases ho
              have e0 := hF.get (k := 14) (by decide +kernel)
              change a.tmps.getD 14 undef = .slice (some ad9) b.length c9 at e0
              go_simp
              exact Below.refl _ _
            case inr.inr.inr.inr.inr.inr.inr.inr.inr.inl =>
              cases ho
              have e0 := hF.get (k := 14) (by decide +kernel)
              change a.tmps.getD 14 undef = .slice (some ad9) b.length c9 at e0
              go_simp
              exact Below.refl _ _
            case inr.inr.inr.inr.inr.inr.inr.inr.inr.inr.inl =>
              cases ho
              have e0 := hF.get (k := 14) (by decide +kernel)
              change a.tmps.getD 14 undef = .slice (some ad9) b.length c9 at e0
              go_simp
              exact Below.refl _ _
            case inr.inr.inr.inl =>
              cases ho
              have e2 : a.tmps.getD 95 undef = _ := hd ⟨2, .data⟩ (by simp) rfl
              go_simp
              exact Below.refl _ _
            case inr.inr.inr.inr.inr.inr.inr.inr.inr.inr.inr.inl =>
              cases ho
              have e10 : a.tmps.getD 103 undef = _ := hd ⟨10, .data⟩ (by simp) rfl
              go_simp
              exact Below.refl _ _
            case inr.inr.inr.inr.inl =>
              cases ho
              have e3 : a.tmps.getD 96 undef = _ := hd ⟨3, .data⟩ (by simp) rfl
              go_simp
              exact Below.refl _ _
            case inr.inr.inr.inr.inr.inr.inr.inr.inr.inr.inr.inr.inl =>
              cases ho
              have e11 : a.tmps.getD 104 undef = _ := hd ⟨11, .data⟩ (by simp) rfl
              go_simp
              exact Below.refl _ _
            case inr.inr.inr.inr.inr.inl =>
              cases ho
              have e4 : a.tmps.getD 97 undef = _ := hd ⟨4, .data⟩ (by simp) rfl
              go_simp
              exact Below.refl _ _
            case inr.inr.inr.inr.inr.inr.inr.inr.inr.inr.inr.inr.inr.inl =>
              cases ho
              have e12 : a.tmps.getD 105 undef = _ := hd ⟨12, .data⟩ (by simp) rfl
              go_simp
              exact Below.refl _ _
            case inr.inr.inr.inr.inr.inr.inl =>
              cases ho
              have e5 : a.tmps.getD 98 undef = _ := hd ⟨5, .data⟩ (by simp) rfl
              go_simp
              exact Below.refl _ _
            case inr.inr.inr.inr.inr.inr.inr.inr.inr.inr.inr.inr.inr.inr.inl =>
              cases ho
              have e13 : a.tmps.getD 106 undef = _ := hd ⟨13, .data⟩ (by simp) rfl
              go_simp
              exact Below.refl _ _
            case inr.inr.inr.inr.inr.inr.inr.inl =>
              cases ho
              have e1 : a.tmps.getD 94 undef = _ := hd ⟨1, .data⟩ (by simp) rfl
              have e6 : a.tmps.getD 99 undef = _ := hd ⟨6, .data⟩ (by simp) rfl
              go_simp
              exact Below.refl _ _
            case inr.inr.inr.inr.inr.inr.inr.inr.inl =>
              cases ho
              have e7 : a.tmps.getD 100 undef = _ := hd ⟨7, .data⟩ (by simp) rfl
              have hx := hdv1 w hB
              go_simp
              exact Below.refl _ _
            case inr.inr.inr.inr.inr.inr.inr.inr.inr.inr.inr.inr.inr.inr.inr.inl =>
              cases ho
              have e9 : a.tmps.getD 102 undef = _ := hd ⟨9, .data⟩ (by simp) rfl
              have e14 : a.tmps.getD 107 undef = _ := hd ⟨14, .data⟩ (by simp) rfl
              go_simp
              exact Below.refl _ _
            case inr.inr.inr.inr.inr.inr.inr.inr.inr.inr.inr.inr.inr.inr.inr.inr.inl =>
              cases ho
              have e15 : a.tmps.getD 108 undef = _ := hd ⟨15, .data⟩ (by simp) rfl
              have hx := hdv2 w hB
              go_simp
              exact Below.refl _ _
            case inr.inr.inr.inr.inr.inr.inr.inr.inr.inr.inr.inr.inr.inr.inr.inr.inr.inl =>
              cases ho
              have e8 : a.tmps.getD 101 undef = _ := hd ⟨8, .data⟩ (by simp) rfl
              have e16 : a.tmps.getD 109 undef = _ := hd ⟨16, .data⟩ (by simp) rfl
              rw [Array.getD_eq_getD_getElem?] at e8 e16
              go_simp
              exact Below.refl _ _
            case inr.inr.inr.inr.inr.inr.inr.inr.inr.inr.inr.inr.inr.inr.inr.inr.inr.inr =>
              cases ho
              have e17 : a.tmps.getD 110 undef = _ := hd ⟨17, .data⟩ (by simp) rfl
              have hBs := hB.size
              rw [Array.getD_eq_getD_getElem?] at e17
              go_simp
              exact ⟨_, rfl, below_alloc (Below.refl _ _) _, _, hBs, rfl, blk_new w _⟩
          · intro vs w3' hB hd
            have h0 : vs 0 = .slice A12 (cs.take k).length c12 := hd 0 (by omega)
            obtain ⟨g, hg1, hv, hg2⟩ := hd 18 (by omega)
            generalize hL : layF _ 19 _ vs = L
            obtain rfl : L = [.slice A l.length c, undef, u2, .slice A1 la.length c1, .slice Ac (la.length + 1) cc, .slice Ad file.length cd, .int .i64 0, .slice (some ad7) F.length c6, .int .i64 file.length, .int .i64 0, .slice A10 (tableL [] (List.take i F)).length c10, .int .i64 i, .slice A12 (List.take k cs).length c12, .int .i64 k, .slice (some ad9) b.length c9, u15, u16, undef, undef, .slice A l.length c, .slice A1 la.length c1, .tuple #[.slice Ac (la.length + 1) cc, .slice Ad file.length cd, .int .i64 0], .slice A1 la.length c1, .slice A2 la.length c2, .agg #[.int .i64 3, .slice none 0 0, .string ⟨#[]⟩, .int .i64 0], .slice (some ⟨w2.heap.size, 0, none⟩) 1 1, .slice A3 (la.length + 1) c3, .tuple #[.slice Ac (la.length + 1) cc, .slice Ad file.length cd, .int .i64 0], .slice Ac (la.length + 1) cc, .slice Ad file.length cd, .int .i64 0, .tuple #[.slice (some ad7) F.length c6, .int .i64 file.length, .int .i64 0], .slice Ad file.length cd, .slice A5 file.length c5, .tuple #[.slice (some ad7) F.length c6, .int .i64 file.length, .int .i64 0], .slice (some ad7) F.length c6, .int .i64 file.length, .int .i64 0, .int .i64 0, .bool false, .bool false, .int .i64 0, .bool false, .bool false, .bool false, .int .i64 file.length, .slice Ad file.length cd, .int .i64 file.length, .bool false, .bool false, .bool false, .slice Ac (la.length + 1) cc, .int .i64 ((la.length : Int) + 1), .slice A1 la.length c1, .int .i64 la.length, .int .i64 ((la.length : Int) + 1), .bool false, .bool false, .int .i64 i, .slice (some ad7) F.length c6, .int .i64 F.length, .bool true, u62, u63, .int .i64 k, .slice (some ad7) F.length c6, .int .i64 i, .pointer (some (ad7.add i)), .slice (some ad8) cs.length c8, .int .i64 cs.length, .bool true, u71, u72, .slice (some ad7) F.length c6, .int .i64 i, .pointer (some (ad7.add i)), .slice (some ad8) cs.length c8, .int .i64 k, .pointer (some (ad8.add k)), .slice (some ad9) b.length c9, .slice (some ad9) b.length c9, .int .i64 b.length, .bool false, .bool false, .slice (some ad9) b.length c9, .pointer (some ad9), .int .u8 n, .int .i64 n, .int .i64 ((n : Int) + 1), .slice (some ad9) b.length c9, .int .i64 b.length, .bool false, .bool false, vs 0, vs 1, vs 2, vs 3, vs 4, vs 5, vs 6, vs 7, vs 8, vs 9, vs 10, vs 11, vs 12, vs 13, vs 14, vs 15, vs 16, vs 17, vs 18, u112, u113, u114, u115, u116, u117, u118, u119, u120, u121, undef, undef, undef, undef, undef, undef, undef, undef, undef, undef, undef, undef, undef, undef, undef, undef, undef, undef, undef, undef, undef, undef, undef, undef] := by rw [← hL]; kernel_rfl
            clear hL
            rw [h0, hv]
            clear hd hdv1 hdv2 h0 hv
            simp only [List.drop_succ_cons, List.drop_zero]
            have hB' := below_step HBi.out hB
            have HO1 := Aside0.mk (Kd.R_below HC.out hB)
            have HB1 := Aside0.mk hB'
            have HQ : Aside0 (k69.C w3' (some ⟨g, 0, none⟩) 1 [q]) := ⟨C_cells (xs := [q]) (inner := [.string q.f0, .string q.f1]) hg2 ⟨rfl, fun j p hp => by
              match j, hp with
              | 0, hp => cases hp; exact k69_mk _ q
              | j + 1, hp => simp at hp⟩ (by simp)⟩
            clear hg2 hB hB'
            go_wp2_with ((with_reducible refine gate_builtin (b := .append) (xs := #[.tmp 93, .tmp 111]) rfl ?_); at_builtin; refine Kd.R_append_rows k69 (w0 := wo) wo.heap.size rfl (.tmp 93) (.tmp 111) 24 69 (.agg #[(.string ⟨#[]⟩), (.string ⟨#[]⟩)]) 32 rfl Try.underlying24 info69 rfl (by decide) (by omega) (.slice A12 (cs.take k).length c12) (cs.take k) [q] (some ⟨g, 0, none⟩) 1 1 (fun _ => True) (fun _ => False) rfl rfl HO1.out HQ.out (fun x cs h => by rw [k69_open h]; exact k69_mkM _ _ _ x) (fun _ h => h.elim) (fun _ _ => trivial) HB1.out (below_size HB1.out) (by omega) ?_; intro v5 w5' ho hb hg hat; rw [← hnext.out] at ho; obtain ⟨A13, c13, rfl⟩ := Kd.R_slice ho; rw [List.length_take] at ho; have HO5' := Aside0.mk ho; have HB5' := Aside0.mk hb; clear ho hb hg hat)
            go_roundw
            case rel => exact ⟨k + 1, by simp, ⟨hkc⟩, HO5', HB5'⟩
            case measure => simp [intOf]; omega
        · obtain rfl : k = cs.length := by omega
          have hC2 := HC.out
          rw [List.take_length] at hC2
          have HS2 := Aside0.mk (Kd.R_reads' hC2)
          have HBw := Aside0.mk (below_step HBr.out HBi.out)
          have H25 := Aside0.mk (rows_Set.calls A10 c10 (tableL [] (F.take i)) A12 c12 cs (tableL [] (F.take (i + 1))) 0 wr (Kd.C_below (Kd.R_reads' HV.out).2.2 HBi.out) (Kd.R_reads' HV.out).2.1 HS2.out.2.2 HS2.out.2.1 (by unfold rows_Set.f; rw [hst.out]))
          clear hC2
          go_wp2_with (go_at_call 25; refine H25.out.mono ?_; rintro e w11 ⟨v11, rfl, ho, hb⟩; have HV11 := Aside0.mk (Kd.R_lower ho HBw.out.size); have HB11 := Aside0.mk (below_step HBw.out hb); clear ho hb)
          go_roundw
          case rel => exact ⟨i + 1, by simp, ⟨hlt⟩, HV11, HB11⟩
          case measure => simp [intOf]; omega
    · obtain rfl : i = F.length := by omega
      have hC2 := HV.out
      rw [List.take_length, ← HF.out.table] at hC2
      obtain ⟨A10, c10, rfl⟩ := Kd.R_slice hC2
      have HS2 := Aside0.mk (Kd.R_reads' hC2)
      have H25 := Aside0.mk (sure_walk wr)
      have HXr := below_step HX6.out HBr.out
      have HOc10 := Kd.C_below HOc.out.2.2 HXr
      obtain ⟨ad4, At, ct, rfl, x0, x1, lt, gt⟩ := at_T62 HOc10 (told.length : Int) (by omega) (by rw [List.length_append, List.length_singleton]; omega)
      have hrd : rd_T62 (told ++ [⟨0, t⟩]) (told.length : Int) = ⟨0, t⟩ := by
        unfold rd_T62
        rw [Int.toNat_natCast, List.getD_eq_getElem?_getD, List.getElem?_append_right (Nat.le_refl _)]
        simp
      rw [hrd] at x1 lt gt
      simp only at x1 lt gt
      rw [Int.toNat_natCast, HT.out] at x1
      have GT := Aside0.mk gt
      have htt : t.length ≤ 40 := HF.out.tlen
      have HBw := Aside0.mk (below_step HB6.out HBr.out)
      clear HOc10 gt hrd x0 hC2 HXr
      go_wp2_with (first
        | (go_at_call 25; refine H25.out.mono ?_; rintro e w11 ⟨vs', cs', rfl, hb11⟩; have HB11 := Aside0.mk (below_step HBw.out hb11); have x1' := (hb11.cell (World.block_lt_of_cell? wr _ x1)).trans x1; have HO11 := Aside0.mk (Kd.C_below HS2.out.2.2 hb11); have GT11 := Aside0.mk (Kd.C_below GT.out hb11); clear hb11)
        | (go_at_call 41; refine (topRows_walk A10 At c10 ct t w11 HO11.out HS2.out.2.1 GT11.out lt (by omega)).mono ?_; rintro e w12 ⟨rfl, hd⟩; have HB12 := Aside0.mk (below_step HB11.out hd.below); clear hd))
      go_ret
      exact ⟨rfl, HB12.out⟩
end Go.Proofs.Ytnjidfgjldkkcaa.Pure
