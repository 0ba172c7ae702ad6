/- seal.Text and its law, walked. -/
import Derived.Test.YtmecnjhjlhpehaaDoorPlWi
namespace Go.Proofs.YtmecnjhjlhpehaaDoor.Q
open Go.RowKit Go.Proofs.YtmecnjhjlhpehaaDoor.Plain Go.Proofs.YtmecnjhjlhpehaaDoorW.PrintWords Go.Proofs.YtmecnjhjlhpehaaDoorW.PrintLast Go.Proofs.YtmecnjhjlhpehaaDoorW.PrintMore
set_option linter.unusedVariables false
set_option linter.unusedSimpArgs false
theorem ofWith_walk (x : S25) (h7 : x.f0 = 7) (hf : faultF 6 x = 0) (hb : bulkF 6 x ≤ 100000000) (A3 : Option Addr) (c3 : Nat) (A4 : Option Addr) (c4 : Nat) (w : World) (h : InAt w (withF x) A3 c3 A4 c4) (hG : Glob w) :
    Calls Tryd.prog 14 #[.agg #[.int .i64 x.f0, .int .i64 0, .string ⟨#[]⟩, .slice A3 (withF x).f3.length c3, .slice A4 (withF x).f4.length c4]] w fun e w' => e = .returned (.string (bz (textF 6 (withF x)))) ∧ Below w.heap.size w w' := by
  have hl := (head_facts (fault_parts (d := 5) hf).1).2.2.1 h7
  exact of_walk (withF x) (with_fault h7 6 hf) (Nat.le_trans (with_bulk hl 6) hb) A3 c3 A4 c4 w h hG
set_option maxRecDepth 100000 in
set_option maxHeartbeats 4000000 in
theorem seal_walk (x : S25) (hb : bulkF 6 x ≤ 100000000) (A3 : Option Addr) (c3 : Nat) (A4 : Option Addr) (c4 : Nat) (w : World) (h : InAt w x A3 c3 A4 c4) (hG : Glob w) :
    Calls Tryd.prog 10 #[.agg #[.int .i64 x.f0, .int .i64 x.f1, .string x.f2, .slice A3 x.f3.length c3, .slice A4 x.f4.length c4]] w fun e w' => e = .returned (.tuple #[.string (sealF x).1, .int .i64 (sealF x).2]) ∧ Below w.heap.size w w' := by
  have HG := Aside0.mk hG
  have HI := Aside0.mk h
  have HB := Aside0.mk (Below.refl w.heap.size w)
  have HBk := Aside0.mk hb
  clear hG h hb
  have HC := Aside0.mk (check_walk x HBk.out A3 c3 A4 c4)
  have hchk := Aside0.mk (@check_fault x)
  have ht : Aside0 (sealF x = if checkF x = 0 then (if x.f0 = 7 then (bz (textF 6 (withF x)), 0) else (⟨#[]⟩, 4)) else (⟨#[]⟩, checkF x)) := ⟨rfl⟩
  obtain ⟨f, hf⟩ : ∃ f, f = checkF x := ⟨_, rfl⟩
  rw [← hf] at HC ht hchk
  clear hf
  by_cases h0 : f = 0
  · subst h0
    have hfl := hchk.out rfl
    have hFl := Aside0.mk hfl
    clear hfl
    by_cases h7 : x.f0 = 7
    · have hl : x.f3.length = x.f4.length := (head_facts (fault_parts (d := 5) hFl.out).1).2.2.1 h7
      have hb4 : x.f4.length ≤ 100000000 := (bulk_parts (d := 5) HBk.out).2.2.1
      have hfin : Aside0 (sealF x = (bz (textF 6 (withF x)), 0)) := ⟨by rw [ht.out, if_pos rfl, if_pos h7]⟩
      have HW := Aside0.mk (without_walk x hl hb4 A3 c3 A4 c4)
      have HO := Aside0.mk (ofWith_walk x h7 hFl.out HBk.out)
      have h7b : (x.f0 != 7) = false := bne_eq_false_iff_eq.mpr h7
      clear hl hb4 h7
      go_enter Tryd.func10, Tryd.ntmps10
      go_wp2_with (first | ((with_reducible refine gate_dst (N := 1) rfl ?_); refine box_event ?hg (N := 1) ?hd (cs := #[.int .i64 x.f0, .int .i64 x.f1, .string x.f2, .slice A3 x.f3.length c3, .slice A4 x.f4.length c4]) (t := 25) ?hr ?_; (case hd => rfl); (case hg => rfl); (case hr => first | (go_simp; done) | (go_simp; rfl)); intro gb hg w2 hbox hb; have HB2 := Aside0.mk (below_step HB.out hb); have BK := Aside0.mk hbox; clear hb hbox hg; have zw20 : w2.cell? ⟨gb, 0, none⟩ = some (.int .i64 x.f0) := (blk_cell BK.out 0).trans rfl; have zw21 : w2.cell? ⟨gb, 1, none⟩ = some (.int .i64 x.f1) := (blk_cell BK.out 1).trans rfl; have zw22 : w2.cell? ⟨gb, 2, none⟩ = some (.string x.f2) := (blk_cell BK.out 2).trans rfl; have zw23 : w2.cell? ⟨gb, 3, none⟩ = some (.slice A3 x.f3.length c3) := (blk_cell BK.out 3).trans rfl; have zw24 : w2.cell? ⟨gb, 4, none⟩ = some (.slice A4 x.f4.length c4) := (blk_cell BK.out 4).trans rfl) | (go_at_call 6; refine (HC.out _ (HI.out.below HB2.out) (HG.out.below HB2.out)).mono ?_; rintro e w3 ⟨rfl, hb⟩; have HB3 := Aside0.mk (below_step HB2.out hb); have BK3 := Aside0.mk (blk_below BK.out hb); clear hb; have zw30 : w3.cell? ⟨gb, 0, none⟩ = some (.int .i64 x.f0) := (blk_cell BK3.out 0).trans rfl; have zw31 : w3.cell? ⟨gb, 1, none⟩ = some (.int .i64 x.f1) := (blk_cell BK3.out 1).trans rfl; have zw32 : w3.cell? ⟨gb, 2, none⟩ = some (.string x.f2) := (blk_cell BK3.out 2).trans rfl; have zw33 : w3.cell? ⟨gb, 3, none⟩ = some (.slice A3 x.f3.length c3) := (blk_cell BK3.out 3).trans rfl; have zw34 : w3.cell? ⟨gb, 4, none⟩ = some (.slice A4 x.f4.length c4) := (blk_cell BK3.out 4).trans rfl) | (go_at_call 18; refine (HW.out _ _ ((HI.out.below HB3.out).below (below_alloc (Below.refl _ _) _)) (blk_new _ _)).mono ?_; rintro e w5 ⟨B3, b3, B4, b4, rfl, hin, hb5⟩; have HN := Aside0.mk hin; have HB5 := Aside0.mk (below_step (below_alloc HB3.out _) hb5); clear hin hb5) | (go_at_call 14; refine (HO.out B3 b3 B4 b4 _ HN.out (HG.out.below HB5.out)).mono ?_; rintro e w6 ⟨rfl, hb6⟩; have HB6 := Aside0.mk (below_step HB5.out hb6); clear hb6))
      go_ret2
      exact ⟨by rw [hfin.out]; rfl, HB6.out⟩
    · have hfin : Aside0 (sealF x = (⟨#[]⟩, 4)) := ⟨by rw [ht.out, if_pos rfl, if_neg h7]⟩
      have h7b : (x.f0 != 7) = true := bne_iff_ne.mpr h7
      clear h7
      go_enter Tryd.func10, Tryd.ntmps10
      go_wp2_with (first | ((with_reducible refine gate_dst (N := 1) rfl ?_); refine box_event ?hg (N := 1) ?hd (cs := #[.int .i64 x.f0, .int .i64 x.f1, .string x.f2, .slice A3 x.f3.length c3, .slice A4 x.f4.length c4]) (t := 25) ?hr ?_; (case hd => rfl); (case hg => rfl); (case hr => first | (go_simp; done) | (go_simp; rfl)); intro gb hg w2 hbox hb; have HB2 := Aside0.mk (below_step HB.out hb); have BK := Aside0.mk hbox; clear hb hbox hg; have zw20 : w2.cell? ⟨gb, 0, none⟩ = some (.int .i64 x.f0) := (blk_cell BK.out 0).trans rfl; have zw21 : w2.cell? ⟨gb, 1, none⟩ = some (.int .i64 x.f1) := (blk_cell BK.out 1).trans rfl; have zw22 : w2.cell? ⟨gb, 2, none⟩ = some (.string x.f2) := (blk_cell BK.out 2).trans rfl; have zw23 : w2.cell? ⟨gb, 3, none⟩ = some (.slice A3 x.f3.length c3) := (blk_cell BK.out 3).trans rfl; have zw24 : w2.cell? ⟨gb, 4, none⟩ = some (.slice A4 x.f4.length c4) := (blk_cell BK.out 4).trans rfl) | (go_at_call 6; refine (HC.out _ (HI.out.below HB2.out) (HG.out.below HB2.out)).mono ?_; rintro e w3 ⟨rfl, hb⟩; have HB3 := Aside0.mk (below_step HB2.out hb); have BK3 := Aside0.mk (blk_below BK.out hb); clear hb; have zw30 : w3.cell? ⟨gb, 0, none⟩ = some (.int .i64 x.f0) := (blk_cell BK3.out 0).trans rfl; have zw31 : w3.cell? ⟨gb, 1, none⟩ = some (.int .i64 x.f1) := (blk_cell BK3.out 1).trans rfl; have zw32 : w3.cell? ⟨gb, 2, none⟩ = some (.string x.f2) := (blk_cell BK3.out 2).trans rfl; have zw33 : w3.cell? ⟨gb, 3, none⟩ = some (.slice A3 x.f3.length c3) := (blk_cell BK3.out 3).trans rfl; have zw34 : w3.cell? ⟨gb, 4, none⟩ = some (.slice A4 x.f4.length c4) := (blk_cell BK3.out 4).trans rfl))
      go_ret2
      exact ⟨by rw [hfin.out]; rfl, HB3.out⟩
  · have d0 : (f != 0) = true := bne_iff_ne.mpr h0
    have hfin : Aside0 (sealF x = (⟨#[]⟩, f)) := ⟨by rw [ht.out, if_neg h0]⟩
    clear h0
    go_enter Tryd.func10, Tryd.ntmps10
    go_wp2_with (first | ((with_reducible refine gate_dst (N := 1) rfl ?_); refine box_event ?hg (N := 1) ?hd (cs := #[.int .i64 x.f0, .int .i64 x.f1, .string x.f2, .slice A3 x.f3.length c3, .slice A4 x.f4.length c4]) (t := 25) ?hr ?_; (case hd => rfl); (case hg => rfl); (case hr => first | (go_simp; done) | (go_simp; rfl)); intro gb hg w2 hbox hb; have HB2 := Aside0.mk (below_step HB.out hb); have BK := Aside0.mk hbox; clear hb hbox hg; have zw20 : w2.cell? ⟨gb, 0, none⟩ = some (.int .i64 x.f0) := (blk_cell BK.out 0).trans rfl; have zw21 : w2.cell? ⟨gb, 1, none⟩ = some (.int .i64 x.f1) := (blk_cell BK.out 1).trans rfl; have zw22 : w2.cell? ⟨gb, 2, none⟩ = some (.string x.f2) := (blk_cell BK.out 2).trans rfl; have zw23 : w2.cell? ⟨gb, 3, none⟩ = some (.slice A3 x.f3.length c3) := (blk_cell BK.out 3).trans rfl; have zw24 : w2.cell? ⟨gb, 4, none⟩ = some (.slice A4 x.f4.length c4) := (blk_cell BK.out 4).trans rfl) | (go_at_call 6; refine (HC.out _ (HI.out.below HB2.out) (HG.out.below HB2.out)).mono ?_; rintro e w3 ⟨rfl, hb⟩; have HB3 := Aside0.mk (below_step HB2.out hb); have BK3 := Aside0.mk (blk_below BK.out hb); clear hb; have zw30 : w3.cell? ⟨gb, 0, none⟩ = some (.int .i64 x.f0) := (blk_cell BK3.out 0).trans rfl; have zw31 : w3.cell? ⟨gb, 1, none⟩ = some (.int .i64 x.f1) := (blk_cell BK3.out 1).trans rfl; have zw32 : w3.cell? ⟨gb, 2, none⟩ = some (.string x.f2) := (blk_cell BK3.out 2).trans rfl; have zw33 : w3.cell? ⟨gb, 3, none⟩ = some (.slice A3 x.f3.length c3) := (blk_cell BK3.out 3).trans rfl; have zw34 : w3.cell? ⟨gb, 4, none⟩ = some (.slice A4 x.f4.length c4) := (blk_cell BK3.out 4).trans rfl))
    go_ret2
    exact ⟨by rw [hfin.out]; rfl, HB3.out⟩
theorem refSeal_walk (x : S25) (hb : bulkF 6 x ≤ 100000000) (A3 : Option Addr) (c3 : Nat) (A4 : Option Addr) (c4 : Nat) (w : World) (h : InAt w x A3 c3 A4 c4) :
    Calls Tryd.prog 11 #[.agg #[.int .i64 x.f0, .int .i64 x.f1, .string x.f2, .slice A3 x.f3.length c3, .slice A4 x.f4.length c4]] w fun e w' => e = .returned (.tuple #[.string (sealF x).1, .int .i64 (sealF x).2]) ∧ Below w.heap.size w w' := by
  obtain ⟨k, hk⟩ := (rSeal_ev x hb).rounds
  exact bagnallref_SealText.calls k _ _ _ A3 c3 _ (fun k => k < w.heap.size) A4 c4 _ _ _ w h.2.1 h.1 (Kd.V_mk h.2.2.1 (Kd.C_F k25_heap h.2.2.2)) hk
set_option maxRecDepth 100000 in
set_option maxHeartbeats 2000000 in
/-- The law of seal.Text. -/
theorem sealLaw_walk (x : S25) (hb : bulkF 6 x ≤ 100000000) (A3 : Option Addr) (c3 : Nat) (A4 : Option Addr) (c4 : Nat) (w : World) (h : InAt w x A3 c3 A4 c4) (hG : Glob w) :
    Calls Tryd.prog 5 #[.agg #[.int .i64 x.f0, .int .i64 x.f1, .string x.f2, .slice A3 x.f3.length c3, .slice A4 x.f4.length c4]] w fun e w' => e = .returned (.bool true) ∧ Below w.heap.size w w' := by
  have HG := Aside0.mk hG
  have HI := Aside0.mk h
  have HB := Aside0.mk (Below.refl w.heap.size w)
  have HT := Aside0.mk (seal_walk x hb A3 c3 A4 c4)
  have HR := Aside0.mk (refSeal_walk x hb A3 c3 A4 c4)
  clear hG h hb
  obtain ⟨f, hf⟩ : ∃ f, f = (sealF x).2 := ⟨_, rfl⟩
  obtain ⟨t, ht⟩ : ∃ t, t = (sealF x).1 := ⟨_, rfl⟩
  rw [← hf, ← ht] at HT HR
  clear hf ht
  go_enter Tryd.func5, Tryd.ntmps5
  go_wp2_with (first | ((with_reducible refine gate_dst (N := 1) rfl ?_); refine box_event ?hg (N := 1) ?hd (cs := #[.int .i64 x.f0, .int .i64 x.f1, .string x.f2, .slice A3 x.f3.length c3, .slice A4 x.f4.length c4]) (t := 25) ?hr ?_; (case hd => rfl); (case hg => rfl); (case hr => first | (go_simp; done) | (go_simp; rfl)); intro gb hg w2 hbox hb; have HB2 := Aside0.mk (below_step HB.out hb); have BK := Aside0.mk hbox; clear hb hbox hg; have zw20 : w2.cell? ⟨gb, 0, none⟩ = some (.int .i64 x.f0) := (blk_cell BK.out 0).trans rfl; have zw21 : w2.cell? ⟨gb, 1, none⟩ = some (.int .i64 x.f1) := (blk_cell BK.out 1).trans rfl; have zw22 : w2.cell? ⟨gb, 2, none⟩ = some (.string x.f2) := (blk_cell BK.out 2).trans rfl; have zw23 : w2.cell? ⟨gb, 3, none⟩ = some (.slice A3 x.f3.length c3) := (blk_cell BK.out 3).trans rfl; have zw24 : w2.cell? ⟨gb, 4, none⟩ = some (.slice A4 x.f4.length c4) := (blk_cell BK.out 4).trans rfl) | (go_at_call 10; refine (HT.out _ (HI.out.below HB2.out) (HG.out.below HB2.out)).mono ?_; rintro e w3 ⟨rfl, hb⟩; have HB3 := Aside0.mk (below_step HB2.out hb); have BK3 := Aside0.mk (blk_below BK.out hb); clear hb; have zw30 : w3.cell? ⟨gb, 0, none⟩ = some (.int .i64 x.f0) := (blk_cell BK3.out 0).trans rfl; have zw31 : w3.cell? ⟨gb, 1, none⟩ = some (.int .i64 x.f1) := (blk_cell BK3.out 1).trans rfl; have zw32 : w3.cell? ⟨gb, 2, none⟩ = some (.string x.f2) := (blk_cell BK3.out 2).trans rfl; have zw33 : w3.cell? ⟨gb, 3, none⟩ = some (.slice A3 x.f3.length c3) := (blk_cell BK3.out 3).trans rfl; have zw34 : w3.cell? ⟨gb, 4, none⟩ = some (.slice A4 x.f4.length c4) := (blk_cell BK3.out 4).trans rfl) | (go_at_call 11; refine (HR.out _ (HI.out.below HB3.out)).mono ?_; rintro e w4 ⟨rfl, hb⟩; have HB4 := Aside0.mk (below_step HB3.out hb); have BK4 := Aside0.mk (blk_below BK3.out hb); clear hb; have zw40 : w4.cell? ⟨gb, 0, none⟩ = some (.int .i64 x.f0) := (blk_cell BK4.out 0).trans rfl; have zw41 : w4.cell? ⟨gb, 1, none⟩ = some (.int .i64 x.f1) := (blk_cell BK4.out 1).trans rfl; have zw42 : w4.cell? ⟨gb, 2, none⟩ = some (.string x.f2) := (blk_cell BK4.out 2).trans rfl; have zw43 : w4.cell? ⟨gb, 3, none⟩ = some (.slice A3 x.f3.length c3) := (blk_cell BK4.out 3).trans rfl; have zw44 : w4.cell? ⟨gb, 4, none⟩ = some (.slice A4 x.f4.length c4) := (blk_cell BK4.out 4).trans rfl))
  go_ret
  exact ⟨by first | rfl | simp, HB4.out⟩
end Go.Proofs.YtmecnjhjlhpehaaDoor.Q
