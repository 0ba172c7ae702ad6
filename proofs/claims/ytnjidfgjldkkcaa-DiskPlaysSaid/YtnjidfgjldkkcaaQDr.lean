/- bagnallref.DiskPlayed, walked to the same plain function as disk.play. -/
import Derived.Test.YtnjidfgjldkkcaaQDp
import Derived.Deep.RegionLaw
namespace Go.Proofs.Ytnjidfgjldkkcaa.Q
open Go.RowKit Go.Proofs.YtnjidfgjldkkcaaW.PrintWords Go.Proofs.YtnjidfgjldkkcaaW.PrintLast Go.Proofs.YtnjidfgjldkkcaaW.PrintMore
attribute [local go_sem] max2_int min2_int max_two min_two
theorem results_tmp4 {fn : Func} {t u v x : Tmp} (h : fn.results = #[.tmp t, .tmp u, .tmp v, .tmp x]) (tmps : Array Value) (P : Program) (w : World) :
    (results fn tmps).run P w = .ok (.tuple #[tmps.getD t undef, tmps.getD u undef, tmps.getD v undef, tmps.getD x undef]) w := by
  simp [results, h]
def Played (w : World) (R : List Int × List Int × List Int × Int) (e : Ending) (w' : World) : Prop :=
  ∃ v1 v2 v3, e = .returned (.tuple #[v1, v2, v3, .int .i64 R.2.2.2]) ∧ (Kd.int .i64).R 25 w' w.heap.size (fun _ => True) v1 R.1 ∧ (Kd.int .u8).R 5 w' w.heap.size (fun _ => True) v2 R.2.1 ∧ (Kd.int .u8).R 5 w' w.heap.size (fun _ => True) v3 R.2.2.1 ∧ Below w.heap.size w w'
def playedF (l : List S72) : List Int × List Int × List Int × Int := if 100 < l.length then ([], [], [], 1) else ((dskPlay l [] 0).1, (dskPlay l [] 0).2.1.take (dskPlay l [] 0).2.2, (dskPlay l [] 0).2.1.drop (dskPlay l [] 0).2.2, 0)
set_option maxRecDepth 100000 in
set_option maxHeartbeats 8000000 in
theorem ref_DiskPlayed (A : Option Addr) (c : Nat) (l : List S72) (w : World) (hr : Kd.C k72 w A l.length l) (hc : l.length ≤ c) (hb : ∀ m ∈ l, m.f1.length ≤ 140737488351232) :
    Calls Try.prog 34 #[.slice A l.length c] w (Played w (playedF l)) := by
  by_cases hl : 100 < l.length
  · have e : Aside0 (playedF l = ([], [], [], 1)) := ⟨by unfold playedF; rw [if_pos hl]⟩
    go_enter Try.func34, Try.ntmps34
    go_wp2
    refine bodyPost_ret (results_tmp4 rfl _ _ _) rfl ?_
    rw [e.out]
    exact ⟨_, _, _, rfl, Kd.R_nil _ _ _ _ _, Kd.R_nil _ _ _ _ _, Kd.R_nil _ _ _ _ _, Below.refl _ _⟩
  have e : Aside0 (playedF l = ((dskPlay l [] 0).1, (dskPlay l [] 0).2.1.take (dskPlay l [] 0).2.2, (dskPlay l [] 0).2.1.drop (dskPlay l [] 0).2.2, 0)) := ⟨by unfold playedF; rw [if_neg hl]⟩
  have HR := Aside0.mk hr
  have HC := Aside0.mk hc
  have HBm := Aside0.mk hb
  clear hr hc hb
  go_enter Try.func34, Try.ntmps34
  go_wp2
  go_loopw [6, 7, 8, 18] (fun v6 v7 v8 v18 wr => ∃ (i : Nat) (cs sa op : List Int), v18 = .int .i64 i ∧ Aside0 (i ≤ l.length) ∧ Aside0 ((cs ++ (dskPlay (l.drop i) (sa ++ op) sa.length).1, (dskPlay (l.drop i) (sa ++ op) sa.length).2) = dskPlay l [] 0) ∧ Aside0 (cs.length ≤ i) ∧ Aside0 ((sa ++ op).length ≤ 1200) ∧ Aside0 ((Kd.int .u8).R 5 wr w.heap.size (fun _ => True) v7 sa) ∧ Aside0 ((Kd.int .u8).R 5 wr w.heap.size (fun _ => True) v8 op) ∧ Aside0 ((Kd.int .i64).R 25 wr w.heap.size (fun _ => True) v6 cs) ∧ Aside0 (Below w.heap.size w wr)) (fun _ _ _ v18 _ => l.length - (intOf v18).toNat)
  case atStart => exact ⟨0, [], [], [], rfl, ⟨Nat.zero_le _⟩, ⟨rfl⟩, ⟨Nat.le_refl _⟩, ⟨by simp⟩, ⟨Kd.R_nil _ _ _ _ _⟩, ⟨Kd.R_nil _ _ _ _ _⟩, ⟨Kd.R_nil _ _ _ _ _⟩, ⟨Below.refl _ _⟩⟩
  case round =>
    obtain ⟨i, cs, sa, op, rfl, hi, hs, hcl, hdl, HS, HP, HO, HB⟩ := hrel
    have hil := hi.out
    by_cases hlt : i < l.length
    · have hst := Aside0.mk (dsk_next hs.out hlt)
      have hdl2 := Aside0.mk (dskStep_len (sa ++ op) sa.length (rd_T72 l i) hdl.out)
      obtain ⟨ad, A1, c1, rfl, x0, x1, x2, l1, g1⟩ := at_T72 (Kd.C_below HR.out HB.out) (i : Int) (by omega) (by omega)
      rw [Int.toNat_natCast] at x0 x1 x2
      obtain ⟨m, hm⟩ : ∃ m, m = rd_T72 l (i : Int) := ⟨_, rfl⟩
      rw [← hm] at hst hdl2 x0 x1 x2 l1 g1
      have hmb : Aside0 (m.f1.length ≤ 140737488351232) := ⟨HBm.out _ (by rw [hm]; unfold rd_T72; rw [Int.toNat_natCast, List.getD_eq_getElem?_getD, List.getElem?_eq_getElem hlt]; exact List.getElem_mem _)⟩
      have G1 := Aside0.mk g1
      obtain ⟨A7, c7, rfl⟩ := Kd.R_slice HS.out
      obtain ⟨A8, c8, rfl⟩ := Kd.R_slice HP.out
      clear hm g1
      go_upto_block 2 with (fail)
      go_cut [7, 8, 11] (fun v7 v8 v11 wc => ∃ (sa' op' : List Int) (code : Int), v11 = .int .i64 code ∧ Aside0 (dskStep (sa ++ op) sa.length m = (code, sa' ++ op', sa'.length)) ∧ Aside0 ((Kd.int .u8).R 5 wc w.heap.size (fun _ => True) v7 sa') ∧ Aside0 ((Kd.int .u8).R 5 wc w.heap.size (fun _ => True) v8 op') ∧ Aside0 (Below wr.heap.size wr wc))
      case first =>
        obtain ⟨W0, hW0⟩ : ∃ W, W = wr.alloc (.cells #[.int .i64 m.f0, .slice A1 m.f1.length c1, .int .i64 m.f2] 72) := ⟨_, rfl⟩
        rw [← hW0]
        have BW0 : Aside0 (Below wr.heap.size wr W0) := ⟨hW0 ▸ below_alloc (Below.refl _ _) _⟩
        have y0 : W0.cell? ⟨wr.heap.size, 0, none⟩ = some (.int .i64 m.f0) := by rw [hW0, blk_cell (blk_new wr _)]; rfl
        have y1 : W0.cell? ⟨wr.heap.size, 1, none⟩ = some (.slice A1 m.f1.length c1) := by rw [hW0, blk_cell (blk_new wr _)]; rfl
        have y2 : W0.cell? ⟨wr.heap.size, 2, none⟩ = some (.int .i64 m.f2) := by rw [hW0, blk_cell (blk_new wr _)]; rfl
        have HS0 := Aside0.mk (Kd.R_below HS.out BW0.out)
        have HP0 := Aside0.mk (Kd.R_below HP.out BW0.out)
        have CS : Aside0 (∀ W, Below W0.heap.size W0 W → (Kd.int .u8).C W A7 sa.length sa) := ⟨fun W hW => Kd.C_below (Kd.R_reads' HS0.out).2.2 hW⟩
        have CP : Aside0 (∀ W, Below W0.heap.size W0 W → (Kd.int .u8).C W A8 op.length op) := ⟨fun W hW => Kd.C_below (Kd.R_reads' HP0.out).2.2 hW⟩
        have CM : Aside0 (∀ W, Below W0.heap.size W0 W → (Kd.int .u8).C W A1 m.f1.length m.f1) := ⟨fun W hW => Kd.C_below (Kd.C_below G1.out BW0.out) hW⟩
        have hll : sa.length + op.length ≤ 1200 := by have := hdl.out; rw [List.length_append] at this; exact this
        have hmb' := hmb.out
        have hww : Aside0 (w.heap.size ≤ W0.heap.size) := ⟨Nat.le_trans HB.out.size BW0.out.size⟩
        clear hW0
        obtain ⟨k, b, n⟩ := m
        simp only at y0 y1 y2 CM hmb' ⊢
        by_cases k1 : k = 1
        · subst k1
          by_cases hbig : 1200 < sa.length + op.length + b.length
          · have hr : Aside0 (dskStep (sa ++ op) sa.length ⟨1, b, n⟩ = (10, sa ++ op, sa.length)) := ⟨by unfold dskStep; rw [if_pos rfl, if_pos (by rw [List.length_append]; exact hbig)]⟩
            have hbig' : (1200 : Int) < (sa.length : Int) + (op.length : Int) + (b.length : Int) := by omega
            go_wp2
            go_meet
            case rel => exact ⟨sa, op, 10, rfl, hr, HS0, HP0, BW0⟩
          · have hr : Aside0 (dskStep (sa ++ op) sa.length ⟨1, b, n⟩ = (0, sa ++ (op ++ b), sa.length)) := ⟨by unfold dskStep; rw [if_pos rfl, if_neg (by rw [List.length_append]; exact hbig), List.append_assoc]⟩
            have hbig' : (sa.length : Int) + (op.length : Int) + (b.length : Int) ≤ 1200 := by omega
            go_upto_region 13 with (fail)
            all_goals go_region_law (first | (refine Kd.R_append_rows_step (Kd.int .u8) (w0 := W0) W0.heap.size (by simp [Region.wanted]) (.const (.slice none 0 0)) (.tmp 42) 36 5 (.int .u8 0) 1 rfl Try.underlying36 info5 rfl (by decide) (by omega) (.slice none 0 0) [] op _ _ _ (fun _ => True) (fun _ => False) rfl rfl (Kd.R_nil _ _ _ _ _) (CP.out _ (by repeat (first | exact Below.refl _ _ | exact HB51.out | apply below_drew | apply pw_below_drewN))) (fun x cs h => h) (fun _ h => h.elim) (fun _ _ => trivial) (by repeat (first | exact Below.refl _ _ | exact HB51.out | apply below_drew | apply pw_below_drewN)) (below_size (by repeat (first | exact Below.refl _ _ | exact HB51.out | apply below_drew | apply pw_below_drewN))) (by first | omega | (simp only [List.length_nil]; omega)) ?_; intro v1 w1 ho hb hg hat; rw [List.nil_append] at ho; obtain ⟨A51, c51, rfl⟩ := Kd.R_slice ho; have HO51 := Aside0.mk ho; have HB51 := Aside0.mk hb; have y10 := (HB51.out.cell (World.block_lt_of_cell? W0 _ y0)).trans y0; have y11 := (HB51.out.cell (World.block_lt_of_cell? W0 _ y1)).trans y1; have y12 := (HB51.out.cell (World.block_lt_of_cell? W0 _ y2)).trans y2; clear ho hb hg hat) | (refine Kd.R_append_rows_step (Kd.int .u8) (w0 := W0) W0.heap.size (by simp [Region.wanted]) (.tmp 43) (.tmp 45) 36 5 (.int .u8 0) 1 rfl Try.underlying36 info5 rfl (by decide) (by omega) (.slice A51 op.length c51) op b _ _ _ (fun _ => True) (fun _ => False) rfl rfl HO51.out (CM.out _ (by repeat (first | exact Below.refl _ _ | exact HB51.out | apply below_drew | apply pw_below_drewN))) (fun x cs h => h) (fun _ h => h.elim) (fun _ _ => trivial) (by repeat (first | exact Below.refl _ _ | exact HB51.out | apply below_drew | apply pw_below_drewN)) (below_size (by repeat (first | exact Below.refl _ _ | exact HB51.out | apply below_drew | apply pw_below_drewN))) (by first | omega | (simp only [List.length_nil]; omega)) ?_; intro v2 w2 ho hb hg hat; obtain ⟨A52, c52, rfl⟩ := Kd.R_slice ho; rw [List.length_append] at ho; have HO52 := Aside0.mk ho; have HB52 := Aside0.mk hb; clear ho hb hg hat))
            all_goals
              go_wp2
              go_meet
              case rel => exact ⟨sa, op ++ b, 0, rfl, hr, ⟨Kd.R_below HS0.out HB52.out⟩, ⟨Kd.R_lower HO52.out hww.out⟩, ⟨below_step BW0.out HB52.out⟩⟩
        by_cases k2 : k = 2
        · subst k2
          have hr : Aside0 (dskStep (sa ++ op) sa.length ⟨2, b, n⟩ = (0, (sa ++ op) ++ [], (sa ++ op).length)) := ⟨by unfold dskStep; rw [if_neg k1, if_pos rfl, List.append_nil]⟩
          go_wp2_with (first | ((with_reducible refine gate_builtin (b := .append) (xs := #[.const (.slice none 0 0), .tmp 51]) rfl ?_); at_builtin; refine Kd.R_append_rows (Kd.int .u8) (w0 := W0) W0.heap.size rfl (.const (.slice none 0 0)) (.tmp 51) 36 5 (.int .u8 0) 1 rfl Try.underlying36 info5 rfl (by decide) (by omega) (.slice none 0 0) [] sa _ _ _ (fun _ => True) (fun _ => False) rfl rfl (Kd.R_nil _ _ _ _ _) (CS.out _ (by repeat (first | exact Below.refl _ _ | exact HB51.out | apply below_drew | apply pw_below_drewN))) (fun x cs h => h) (fun _ h => h.elim) (fun _ _ => trivial) (by repeat (first | exact Below.refl _ _ | exact HB51.out | apply below_drew | apply pw_below_drewN)) (below_size (by repeat (first | exact Below.refl _ _ | exact HB51.out | apply below_drew | apply pw_below_drewN))) (by first | omega | (simp only [List.length_nil]; omega)) ?_; intro v1 w1 ho hb hg hat; rw [List.nil_append] at ho; obtain ⟨A51, c51, rfl⟩ := Kd.R_slice ho; have HO51 := Aside0.mk ho; have HB51 := Aside0.mk hb; clear ho hb hg hat) | ((with_reducible refine gate_builtin (b := .append) (xs := #[.tmp 52, .tmp 53]) rfl ?_); at_builtin; refine Kd.R_append_rows (Kd.int .u8) (w0 := W0) W0.heap.size rfl (.tmp 52) (.tmp 53) 36 5 (.int .u8 0) 1 rfl Try.underlying36 info5 rfl (by decide) (by omega) (.slice A51 sa.length c51) sa op _ _ _ (fun _ => True) (fun _ => False) rfl rfl HO51.out (CP.out _ (by repeat (first | exact Below.refl _ _ | exact HB51.out | apply below_drew | apply pw_below_drewN))) (fun x cs h => h) (fun _ h => h.elim) (fun _ _ => trivial) (by repeat (first | exact Below.refl _ _ | exact HB51.out | apply below_drew | apply pw_below_drewN)) (below_size (by repeat (first | exact Below.refl _ _ | exact HB51.out | apply below_drew | apply pw_below_drewN))) (by first | omega | (simp only [List.length_nil]; omega)) ?_; intro v2 w2 ho hb hg hat; obtain ⟨A52, c52, rfl⟩ := Kd.R_slice ho; rw [List.length_append] at ho; have HO52 := Aside0.mk ho; have HB52 := Aside0.mk hb; clear ho hb hg hat))
          go_meet
          case rel => exact ⟨sa ++ op, [], 0, rfl, hr, ⟨Kd.R_lower HO52.out hww.out⟩, ⟨Kd.R_nil _ _ _ _ _⟩, ⟨below_step BW0.out HB52.out⟩⟩
        by_cases k3 : k = 3
        · subst k3
          have hsl : ((sa ++ op).length : Int) = (sa.length : Int) + (op.length : Int) := by rw [List.length_append]; omega
          by_cases n0 : n < 0
          · have hr : Aside0 (dskStep (sa ++ op) sa.length ⟨3, b, n⟩ = (2, sa ++ op, sa.length)) := ⟨by unfold dskStep; rw [if_neg k1, if_neg k2, if_pos rfl, if_pos n0]⟩
            clear hsl
            go_wp2_with (first | ((with_reducible refine gate_builtin (b := .append) (xs := #[.const (.slice none 0 0), .tmp 59]) rfl ?_); at_builtin; refine Kd.R_append_rows (Kd.int .u8) (w0 := W0) W0.heap.size rfl (.const (.slice none 0 0)) (.tmp 59) 36 5 (.int .u8 0) 1 rfl Try.underlying36 info5 rfl (by decide) (by omega) (.slice none 0 0) [] sa _ _ _ (fun _ => True) (fun _ => False) rfl rfl (Kd.R_nil _ _ _ _ _) (CS.out _ (by repeat (first | exact Below.refl _ _ | exact HB51.out | apply below_drew | apply pw_below_drewN))) (fun x cs h => h) (fun _ h => h.elim) (fun _ _ => trivial) (by repeat (first | exact Below.refl _ _ | exact HB51.out | apply below_drew | apply pw_below_drewN)) (below_size (by repeat (first | exact Below.refl _ _ | exact HB51.out | apply below_drew | apply pw_below_drewN))) (by first | omega | (simp only [List.length_nil]; omega)) ?_; intro v1 w1 ho hb hg hat; rw [List.nil_append] at ho; obtain ⟨A51, c51, rfl⟩ := Kd.R_slice ho; have HO51 := Aside0.mk ho; have HB51 := Aside0.mk hb; clear ho hb hg hat) | ((with_reducible refine gate_builtin (b := .append) (xs := #[.tmp 60, .tmp 61]) rfl ?_); at_builtin; refine Kd.R_append_rows (Kd.int .u8) (w0 := W0) W0.heap.size rfl (.tmp 60) (.tmp 61) 36 5 (.int .u8 0) 1 rfl Try.underlying36 info5 rfl (by decide) (by omega) (.slice A51 sa.length c51) sa op _ _ _ (fun _ => True) (fun _ => False) rfl rfl HO51.out (CP.out _ (by repeat (first | exact Below.refl _ _ | exact HB51.out | apply below_drew | apply pw_below_drewN))) (fun x cs h => h) (fun _ h => h.elim) (fun _ _ => trivial) (by repeat (first | exact Below.refl _ _ | exact HB51.out | apply below_drew | apply pw_below_drewN)) (below_size (by repeat (first | exact Below.refl _ _ | exact HB51.out | apply below_drew | apply pw_below_drewN))) (by first | omega | (simp only [List.length_nil]; omega)) ?_; intro v2 w2 ho hb hg hat; obtain ⟨A52, c52, rfl⟩ := Kd.R_slice ho; rw [List.length_append] at ho; have HO52 := Aside0.mk ho; have HB52 := Aside0.mk hb; have y20 := (HB52.out.cell (World.block_lt_of_cell? W0 _ y0)).trans y0; have y22 := (HB52.out.cell (World.block_lt_of_cell? W0 _ y2)).trans y2; clear ho hb hg hat))
            go_meet
            case rel => exact ⟨sa, op, 2, rfl, hr, ⟨Kd.R_below HS0.out HB52.out⟩, ⟨Kd.R_below HP0.out HB52.out⟩, ⟨below_step BW0.out HB52.out⟩⟩
          by_cases n1 : (sa.length : Int) + (op.length : Int) < n
          · have hr : Aside0 (dskStep (sa ++ op) sa.length ⟨3, b, n⟩ = (2, sa ++ op, sa.length)) := ⟨by unfold dskStep; rw [if_neg k1, if_neg k2, if_pos rfl, if_neg n0, if_pos (by rw [hsl]; exact n1)]⟩
            clear hsl
            go_wp2_with (first | ((with_reducible refine gate_builtin (b := .append) (xs := #[.const (.slice none 0 0), .tmp 59]) rfl ?_); at_builtin; refine Kd.R_append_rows (Kd.int .u8) (w0 := W0) W0.heap.size rfl (.const (.slice none 0 0)) (.tmp 59) 36 5 (.int .u8 0) 1 rfl Try.underlying36 info5 rfl (by decide) (by omega) (.slice none 0 0) [] sa _ _ _ (fun _ => True) (fun _ => False) rfl rfl (Kd.R_nil _ _ _ _ _) (CS.out _ (by repeat (first | exact Below.refl _ _ | exact HB51.out | apply below_drew | apply pw_below_drewN))) (fun x cs h => h) (fun _ h => h.elim) (fun _ _ => trivial) (by repeat (first | exact Below.refl _ _ | exact HB51.out | apply below_drew | apply pw_below_drewN)) (below_size (by repeat (first | exact Below.refl _ _ | exact HB51.out | apply below_drew | apply pw_below_drewN))) (by first | omega | (simp only [List.length_nil]; omega)) ?_; intro v1 w1 ho hb hg hat; rw [List.nil_append] at ho; obtain ⟨A51, c51, rfl⟩ := Kd.R_slice ho; have HO51 := Aside0.mk ho; have HB51 := Aside0.mk hb; clear ho hb hg hat) | ((with_reducible refine gate_builtin (b := .append) (xs := #[.tmp 60, .tmp 61]) rfl ?_); at_builtin; refine Kd.R_append_rows (Kd.int .u8) (w0 := W0) W0.heap.size rfl (.tmp 60) (.tmp 61) 36 5 (.int .u8 0) 1 rfl Try.underlying36 info5 rfl (by decide) (by omega) (.slice A51 sa.length c51) sa op _ _ _ (fun _ => True) (fun _ => False) rfl rfl HO51.out (CP.out _ (by repeat (first | exact Below.refl _ _ | exact HB51.out | apply below_drew | apply pw_below_drewN))) (fun x cs h => h) (fun _ h => h.elim) (fun _ _ => trivial) (by repeat (first | exact Below.refl _ _ | exact HB51.out | apply below_drew | apply pw_below_drewN)) (below_size (by repeat (first | exact Below.refl _ _ | exact HB51.out | apply below_drew | apply pw_below_drewN))) (by first | omega | (simp only [List.length_nil]; omega)) ?_; intro v2 w2 ho hb hg hat; obtain ⟨A52, c52, rfl⟩ := Kd.R_slice ho; rw [List.length_append] at ho; have HO52 := Aside0.mk ho; have HB52 := Aside0.mk hb; have y20 := (HB52.out.cell (World.block_lt_of_cell? W0 _ y0)).trans y0; have y22 := (HB52.out.cell (World.block_lt_of_cell? W0 _ y2)).trans y2; clear ho hb hg hat))
            go_meet
            case rel => exact ⟨sa, op, 2, rfl, hr, ⟨Kd.R_below HS0.out HB52.out⟩, ⟨Kd.R_below HP0.out HB52.out⟩, ⟨below_step BW0.out HB52.out⟩⟩
          obtain ⟨j, rfl⟩ : ∃ j : Nat, n = j := ⟨n.toNat, by omega⟩
          have hj : j ≤ sa.length + op.length := by omega
          have hr : Aside0 (dskStep (sa ++ op) sa.length ⟨3, b, (j : Int)⟩ = (0, (sa ++ op).take j ++ [], ((sa ++ op).take j).length)) := ⟨by unfold dskStep; rw [if_neg k1, if_neg k2, if_pos rfl, if_neg n0, if_neg (by rw [hsl]; exact n1), Int.toNat_natCast, List.append_nil, List.length_take, List.length_append, Nat.min_eq_left hj]⟩
          have htl : Aside0 (((sa ++ op).take j).length = j) := ⟨by rw [List.length_take, List.length_append, Nat.min_eq_left hj]⟩
          clear hsl
          go_wp2_with (first | ((with_reducible refine gate_builtin (b := .append) (xs := #[.const (.slice none 0 0), .tmp 59]) rfl ?_); at_builtin; refine Kd.R_append_rows (Kd.int .u8) (w0 := W0) W0.heap.size rfl (.const (.slice none 0 0)) (.tmp 59) 36 5 (.int .u8 0) 1 rfl Try.underlying36 info5 rfl (by decide) (by omega) (.slice none 0 0) [] sa _ _ _ (fun _ => True) (fun _ => False) rfl rfl (Kd.R_nil _ _ _ _ _) (CS.out _ (by repeat (first | exact Below.refl _ _ | exact HB51.out | apply below_drew | apply pw_below_drewN))) (fun x cs h => h) (fun _ h => h.elim) (fun _ _ => trivial) (by repeat (first | exact Below.refl _ _ | exact HB51.out | apply below_drew | apply pw_below_drewN)) (below_size (by repeat (first | exact Below.refl _ _ | exact HB51.out | apply below_drew | apply pw_below_drewN))) (by first | omega | (simp only [List.length_nil]; omega)) ?_; intro v1 w1 ho hb hg hat; rw [List.nil_append] at ho; obtain ⟨A51, c51, rfl⟩ := Kd.R_slice ho; have HO51 := Aside0.mk ho; have HB51 := Aside0.mk hb; clear ho hb hg hat) | ((with_reducible refine gate_builtin (b := .append) (xs := #[.tmp 60, .tmp 61]) rfl ?_); at_builtin; refine Kd.R_append_rows (Kd.int .u8) (w0 := W0) W0.heap.size rfl (.tmp 60) (.tmp 61) 36 5 (.int .u8 0) 1 rfl Try.underlying36 info5 rfl (by decide) (by omega) (.slice A51 sa.length c51) sa op _ _ _ (fun _ => True) (fun _ => False) rfl rfl HO51.out (CP.out _ (by repeat (first | exact Below.refl _ _ | exact HB51.out | apply below_drew | apply pw_below_drewN))) (fun x cs h => h) (fun _ h => h.elim) (fun _ _ => trivial) (by repeat (first | exact Below.refl _ _ | exact HB51.out | apply below_drew | apply pw_below_drewN)) (below_size (by repeat (first | exact Below.refl _ _ | exact HB51.out | apply below_drew | apply pw_below_drewN))) (by first | omega | (simp only [List.length_nil]; omega)) ?_; intro v2 w2 ho hb hg hat; obtain ⟨A52, c52, rfl⟩ := Kd.R_slice ho; rw [List.length_append] at ho; have HO52 := Aside0.mk ho; have HB52 := Aside0.mk hb; have hcap := (Kd.R_reads' ho).2.1; have y20 := (HB52.out.cell (World.block_lt_of_cell? W0 _ y0)).trans y0; have y22 := (HB52.out.cell (World.block_lt_of_cell? W0 _ y2)).trans y2; clear ho hb hg hat))
          go_meet
          case rel => exact ⟨(sa ++ op).take j, [], 0, rfl, hr, ⟨Kd.R_lower (Kd.R_take HO52.out (by rw [List.length_append]; exact hj)) hww.out⟩, ⟨Kd.R_nil _ _ _ _ _⟩, ⟨below_step BW0.out HB52.out⟩⟩
        by_cases k4 : k = 4
        · subst k4
          by_cases n0 : n < 0
          · have hr : Aside0 (dskStep (sa ++ op) sa.length ⟨4, b, n⟩ = (2, sa ++ op, sa.length)) := ⟨by unfold dskStep; rw [if_neg k1, if_neg k2, if_neg k3, if_pos rfl, if_pos n0]⟩
            go_wp2
            go_meet
            case rel => exact ⟨sa, op, 2, rfl, hr, HS0, HP0, BW0⟩
          obtain ⟨j, rfl⟩ : ∃ j : Nat, n = j := ⟨n.toNat, by omega⟩
          by_cases n1 : op.length < j
          · have hr : Aside0 (dskStep (sa ++ op) sa.length ⟨4, b, (j : Int)⟩ = (0, (sa ++ op) ++ [], (sa ++ op).length)) := ⟨by
              have e : fallN sa.length j (sa ++ op).length = (sa ++ op).length := by unfold fallN; rw [List.length_append]; omega
              unfold dskStep
              rw [if_neg k1, if_neg k2, if_neg k3, if_pos rfl, if_neg n0, Int.toNat_natCast, e, List.take_length, List.append_nil]⟩
            have n1' : (op.length : Int) < (j : Int) := by omega
            have hcap8 := (Kd.R_reads' HP0.out).2.1
            go_upto_region 26 with (fail)
            all_goals go_region_law (first | (refine Kd.R_append_rows_step (Kd.int .u8) (w0 := W0) W0.heap.size (by simp [Region.wanted]) (.const (.slice none 0 0)) (.tmp 90) 36 5 (.int .u8 0) 1 rfl Try.underlying36 info5 rfl (by decide) (by omega) (.slice none 0 0) [] sa _ _ _ (fun _ => True) (fun _ => False) rfl rfl (Kd.R_nil _ _ _ _ _) (CS.out _ (by repeat (first | exact Below.refl _ _ | exact HB51.out | apply below_drew | apply pw_below_drewN))) (fun x cs h => h) (fun _ h => h.elim) (fun _ _ => trivial) (by repeat (first | exact Below.refl _ _ | exact HB51.out | apply below_drew | apply pw_below_drewN)) (below_size (by repeat (first | exact Below.refl _ _ | exact HB51.out | apply below_drew | apply pw_below_drewN))) (by first | omega | (simp only [List.length_nil]; omega)) ?_; intro v1 w1 ho hb hg hat; rw [List.nil_append] at ho; obtain ⟨A51, c51, rfl⟩ := Kd.R_slice ho; have HO51 := Aside0.mk ho; have HB51 := Aside0.mk hb; have y10 := (HB51.out.cell (World.block_lt_of_cell? W0 _ y0)).trans y0; have y11 := (HB51.out.cell (World.block_lt_of_cell? W0 _ y1)).trans y1; have y12 := (HB51.out.cell (World.block_lt_of_cell? W0 _ y2)).trans y2; clear ho hb hg hat) | (refine Kd.R_append_rows_step (Kd.int .u8) (w0 := W0) W0.heap.size (by simp [Region.wanted]) (.tmp 91) (.tmp 98) 36 5 (.int .u8 0) 1 rfl Try.underlying36 info5 rfl (by decide) (by omega) (.slice A51 sa.length c51) sa op _ _ _ (fun _ => True) (fun _ => False) rfl rfl HO51.out (CP.out _ (by repeat (first | exact Below.refl _ _ | exact HB51.out | apply below_drew | apply pw_below_drewN))) (fun x cs h => h) (fun _ h => h.elim) (fun _ _ => trivial) (by repeat (first | exact Below.refl _ _ | exact HB51.out | apply below_drew | apply pw_below_drewN)) (below_size (by repeat (first | exact Below.refl _ _ | exact HB51.out | apply below_drew | apply pw_below_drewN))) (by first | omega | (simp only [List.length_nil]; omega)) ?_; intro v2 w2 ho hb hg hat; obtain ⟨A52, c52, rfl⟩ := Kd.R_slice ho; rw [List.length_append] at ho; have HO52 := Aside0.mk ho; have HB52 := Aside0.mk hb; clear ho hb hg hat))
            all_goals
              go_wp2
              go_meet
              case rel => exact ⟨sa ++ op, [], 0, rfl, hr, ⟨Kd.R_lower HO52.out hww.out⟩, ⟨Kd.R_nil _ _ _ _ _⟩, ⟨below_step BW0.out HB52.out⟩⟩
          · have hr : Aside0 (dskStep (sa ++ op) sa.length ⟨4, b, (j : Int)⟩ = (0, (sa ++ op.take j) ++ [], (sa ++ op.take j).length)) := ⟨by
              have e : fallN sa.length j (sa ++ op).length = sa.length + j := by unfold fallN; rw [List.length_append]; omega
              unfold dskStep
              have e2 : (sa ++ op).take (sa.length + j) = sa ++ op.take j := by rw [List.take_append, List.take_of_length_le (by omega), Nat.add_sub_cancel_left]
              have e3 : (sa ++ op.take j).length = sa.length + j := by rw [List.length_append, List.length_take]; omega
              rw [if_neg k1, if_neg k2, if_neg k3, if_pos rfl, if_neg n0, Int.toNat_natCast, e, e2, e3, List.append_nil]⟩
            have n1' : (j : Int) ≤ (op.length : Int) := by omega
            have hcap8 := (Kd.R_reads' HP0.out).2.1
            have hjc : j ≤ c8 := by omega
            obtain ⟨oj, hoj⟩ : ∃ z, Aside0 (z = op.take j) := ⟨_, ⟨rfl⟩⟩
            rw [← hoj.out] at hr
            have htl : Aside0 (oj.length = j) := ⟨by rw [hoj.out, List.length_take]; omega⟩
            have CJ : Aside0 (∀ W, Below W0.heap.size W0 W → (Kd.int .u8).C W A8 j oj) := ⟨fun W hW => by have := Kd.C_take (CP.out W hW) (show j ≤ op.length by omega); rw [← hoj.out, htl.out] at this; exact this⟩
            go_upto_region 26 with (fail)
            all_goals go_region_law (first | (refine Kd.R_append_rows_step (Kd.int .u8) (w0 := W0) W0.heap.size (by simp [Region.wanted]) (.const (.slice none 0 0)) (.tmp 90) 36 5 (.int .u8 0) 1 rfl Try.underlying36 info5 rfl (by decide) (by omega) (.slice none 0 0) [] sa _ _ _ (fun _ => True) (fun _ => False) rfl rfl (Kd.R_nil _ _ _ _ _) (CS.out _ (by repeat (first | exact Below.refl _ _ | exact HB51.out | apply below_drew | apply pw_below_drewN))) (fun x cs h => h) (fun _ h => h.elim) (fun _ _ => trivial) (by repeat (first | exact Below.refl _ _ | exact HB51.out | apply below_drew | apply pw_below_drewN)) (below_size (by repeat (first | exact Below.refl _ _ | exact HB51.out | apply below_drew | apply pw_below_drewN))) (by first | omega | (simp only [List.length_nil]; omega)) ?_; intro v1 w1 ho hb hg hat; rw [List.nil_append] at ho; obtain ⟨A51, c51, rfl⟩ := Kd.R_slice ho; have HO51 := Aside0.mk ho; have HB51 := Aside0.mk hb; have y10 := (HB51.out.cell (World.block_lt_of_cell? W0 _ y0)).trans y0; have y11 := (HB51.out.cell (World.block_lt_of_cell? W0 _ y1)).trans y1; have y12 := (HB51.out.cell (World.block_lt_of_cell? W0 _ y2)).trans y2; clear ho hb hg hat) | (refine Kd.R_append_rows_step (Kd.int .u8) (w0 := W0) W0.heap.size (by simp [Region.wanted]) (.tmp 91) (.tmp 98) 36 5 (.int .u8 0) 1 rfl Try.underlying36 info5 rfl (by decide) (by omega) (.slice A51 sa.length c51) sa oj _ _ _ (fun _ => True) (fun _ => False) rfl rfl HO51.out (CJ.out _ (by repeat (first | exact Below.refl _ _ | exact HB51.out | apply below_drew | apply pw_below_drewN))) (fun x cs h => h) (fun _ h => h.elim) (fun _ _ => trivial) (by repeat (first | exact Below.refl _ _ | exact HB51.out | apply below_drew | apply pw_below_drewN)) (below_size (by repeat (first | exact Below.refl _ _ | exact HB51.out | apply below_drew | apply pw_below_drewN))) (by first | omega | (simp only [List.length_nil]; omega)) ?_; intro v2 w2 ho hb hg hat; obtain ⟨A52, c52, rfl⟩ := Kd.R_slice ho; rw [List.length_append] at ho; have HO52 := Aside0.mk ho; have HB52 := Aside0.mk hb; clear ho hb hg hat))
            all_goals
              go_wp2
              go_meet
              case rel => exact ⟨sa ++ oj, [], 0, rfl, hr, ⟨Kd.R_lower HO52.out hww.out⟩, ⟨Kd.R_nil _ _ _ _ _⟩, ⟨below_step BW0.out HB52.out⟩⟩
        have hr : Aside0 (dskStep (sa ++ op) sa.length ⟨k, b, n⟩ = (3, sa ++ op, sa.length)) := ⟨by unfold dskStep; rw [if_neg k1, if_neg k2, if_neg k3, if_neg k4]⟩
        have q1 : (k == 1) = false := by simpa using k1
        have q2 : (k == 2) = false := by simpa using k2
        have q3 : (k == 3) = false := by simpa using k3
        have q4 : (k == 4) = false := by simpa using k4
        go_wp2
        go_meet
        case rel => exact ⟨sa, op, 3, rfl, hr, HS0, HP0, BW0⟩
      case rest =>
        obtain ⟨sa', op', code, rfl, hstep, H7, H8, HBc⟩ := hcut
        have hst' : Aside0 (((cs ++ [code]) ++ (dskPlay (l.drop (i + 1)) (sa' ++ op') sa'.length).1, (dskPlay (l.drop (i + 1)) (sa' ++ op') sa'.length).2) = dskPlay l [] 0) := ⟨by have := hst.out; rw [hstep.out] at this; exact this⟩
        have hdl3 : Aside0 ((sa' ++ op').length ≤ 1200) := ⟨by have := hdl2.out; rw [hstep.out] at this; exact this⟩
        have HOc := Aside0.mk (Kd.R_below HO.out HBc.out)
        have HBw := Aside0.mk (below_step HB.out HBc.out)
        clear hst hdl2 hstep
        go_wp2_with ((with_reducible refine gate_builtin (b := .append) (xs := #[.tmp 100, .tmp 102]) rfl ?_); at_builtin; refine Kd.R_append (Kd.int .i64) (w0 := w) w.heap.size rfl (.tmp 100) (.tmp 102) 49 25 (.int .i64 0) 8 rfl Try.underlying49 info25 rfl (by decide) (by omega) u6 cs code [.int .i64 code] (fun _ => True) (fun _ => False) rfl rfl rfl (fun _ h => h.elim) (fun _ _ => trivial) HOc.out HBw.out (below_size HBw.out) (by have := hcl.out; omega) ?_; intro v4 w4 ho hb hg hat; obtain ⟨A4, c4, rfl⟩ := Kd.R_slice ho; rw [List.length_append, List.length_singleton] at ho hat; have HM4 := Aside0.mk (ModT.grown (T := [25]) hg HOc.out (by simp) (Nat.le_refl _)); have HO4 := Aside0.mk ho; have HB4 := Aside0.mk hb; clear ho hb hg hat)
        go_roundw
        case rel => exact ⟨i + 1, cs ++ [code], sa', op', by simp, ⟨hlt⟩, hst', ⟨by have := hcl.out; rw [List.length_append, List.length_singleton]; omega⟩, hdl3, ⟨HM4.out.R H7.out (by intro q hq; simp [Kd.int, Kd.scalar] at hq; subst hq; simp)⟩, ⟨HM4.out.R H8.out (by intro q hq; simp [Kd.int, Kd.scalar] at hq; subst hq; simp)⟩, HO4, HB4⟩
        case measure => simp [intOf]; omega
    · have he : Aside0 ((cs, sa ++ op, sa.length) = dskPlay l [] 0) := ⟨by have := hs.out; rw [List.drop_of_length_le (by omega)] at this; simpa [dskPlay] using this⟩
      go_wp2
      refine bodyPost_ret (results_tmp4 rfl _ _ _) rfl ?_
      rw [e.out, ← he.out]
      refine ⟨_, _, _, rfl, HO.out, ?_, ?_, HB.out⟩
      · simp only [List.take_left']
        exact HS.out
      · simp only [List.drop_left']
        exact HP.out
end Go.Proofs.Ytnjidfgjldkkcaa.Q
