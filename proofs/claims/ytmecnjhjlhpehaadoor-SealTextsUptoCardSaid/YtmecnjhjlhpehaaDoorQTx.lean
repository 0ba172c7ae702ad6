/- json.Text, walked; the reference's JsonFault and JsonText say the same. -/
import Derived.Test.YtmecnjhjlhpehaaDoorQCk
namespace Go.Proofs.YtmecnjhjlhpehaaDoor.Q
open Go.RowKit Go.Proofs.YtmecnjhjlhpehaaDoor.Plain Go.Proofs.YtmecnjhjlhpehaaDoorW.PrintWords Go.Proofs.YtmecnjhjlhpehaaDoorW.PrintLast Go.Proofs.YtmecnjhjlhpehaaDoorW.PrintMore
set_option linter.unusedVariables false
set_option linter.unusedSimpArgs false
/-- What json.Text tells beside the code. -/
def toldF (x : S25) : ByteArray := if checkF x = 0 then bz (textF 6 x) else ⟨#[]⟩
theorem check_fault {x : S25} (h : checkF x = 0) : faultF 6 x = 0 := by
  unfold checkF at h
  by_cases h0 : faultF 6 x = 0
  · exact h0
  · rw [if_neg h0] at h; exact h
set_option maxRecDepth 100000 in
set_option maxHeartbeats 2000000 in
theorem text_walk (x : S25) (hb : bulkF 6 x ≤ 100000000) (A3 : Option Addr) (c3 : Nat) (A4 : Option Addr) (c4 : Nat) (w : World) (h : InAt w x A3 c3 A4 c4) (hG : Glob w) :
    Calls Tryd.prog 8 #[.agg #[.int .i64 x.f0, .int .i64 x.f1, .string x.f2, .slice A3 x.f3.length c3, .slice A4 x.f4.length c4]] w fun e w' => e = .returned (.tuple #[.string (toldF x), .int .i64 (checkF x)]) ∧ Below w.heap.size w w' := by
  have HG := Aside0.mk hG
  have HI := Aside0.mk h
  have HBk := Aside0.mk hb
  have HB := Aside0.mk (Below.refl w.heap.size w)
  clear hG h hb
  have HC := Aside0.mk (check_walk x HBk.out A3 c3 A4 c4)
  have HO := Aside0.mk (fun hf : checkF x = 0 => of_walk x (check_fault hf) HBk.out A3 c3 A4 c4)
  have ht : Aside0 (toldF x = if checkF x = 0 then bz (textF 6 x) else ⟨#[]⟩) := ⟨rfl⟩
  obtain ⟨f, hf⟩ : ∃ f, f = checkF x := ⟨_, rfl⟩
  rw [← hf] at HC HO ht ⊢
  clear hf
  by_cases h0 : f = 0
  · subst h0
    replace HO := Aside0.mk (HO.out rfl)
    have hfin : Aside0 (toldF x = bz (textF 6 x)) := ⟨by rw [ht.out, if_pos rfl]⟩
    go_enter Tryd.func8, Tryd.ntmps8
    go_wp2_with (first | ((with_reducible refine gate_dst (N := 1) rfl ?_); refine box_event ?hg (N := 1) ?hd (cs := #[.int .i64 x.f0, .int .i64 x.f1, .string x.f2, .slice A3 x.f3.length c3, .slice A4 x.f4.length c4]) (t := 25) ?hr ?_; (case hd => rfl); (case hg => rfl); (case hr => first | (go_simp; done) | (go_simp; rfl)); intro gb hg w2 hbox hb; have HB2 := Aside0.mk (below_step HB.out hb); have BK := Aside0.mk hbox; clear hb hbox hg; have zw20 : w2.cell? ⟨gb, 0, none⟩ = some (.int .i64 x.f0) := (blk_cell BK.out 0).trans rfl; have zw21 : w2.cell? ⟨gb, 1, none⟩ = some (.int .i64 x.f1) := (blk_cell BK.out 1).trans rfl; have zw22 : w2.cell? ⟨gb, 2, none⟩ = some (.string x.f2) := (blk_cell BK.out 2).trans rfl; have zw23 : w2.cell? ⟨gb, 3, none⟩ = some (.slice A3 x.f3.length c3) := (blk_cell BK.out 3).trans rfl; have zw24 : w2.cell? ⟨gb, 4, none⟩ = some (.slice A4 x.f4.length c4) := (blk_cell BK.out 4).trans rfl) | (go_at_call 6; refine (HC.out _ (HI.out.below HB2.out) (HG.out.below HB2.out)).mono ?_; rintro e w3 ⟨rfl, hb⟩; have HB3 := Aside0.mk (below_step HB2.out hb); have BK3 := Aside0.mk (blk_below BK.out hb); clear hb; have zw30 : w3.cell? ⟨gb, 0, none⟩ = some (.int .i64 x.f0) := (blk_cell BK3.out 0).trans rfl; have zw31 : w3.cell? ⟨gb, 1, none⟩ = some (.int .i64 x.f1) := (blk_cell BK3.out 1).trans rfl; have zw32 : w3.cell? ⟨gb, 2, none⟩ = some (.string x.f2) := (blk_cell BK3.out 2).trans rfl; have zw33 : w3.cell? ⟨gb, 3, none⟩ = some (.slice A3 x.f3.length c3) := (blk_cell BK3.out 3).trans rfl; have zw34 : w3.cell? ⟨gb, 4, none⟩ = some (.slice A4 x.f4.length c4) := (blk_cell BK3.out 4).trans rfl) | (go_at_call 14; refine (HO.out _ (HI.out.below HB3.out) (HG.out.below HB3.out)).mono ?_; rintro e w4 ⟨rfl, hb⟩; have HB4 := Aside0.mk (below_step HB3.out hb); have BK4 := Aside0.mk (blk_below BK3.out hb); clear hb; have zw40 : w4.cell? ⟨gb, 0, none⟩ = some (.int .i64 x.f0) := (blk_cell BK4.out 0).trans rfl; have zw41 : w4.cell? ⟨gb, 1, none⟩ = some (.int .i64 x.f1) := (blk_cell BK4.out 1).trans rfl; have zw42 : w4.cell? ⟨gb, 2, none⟩ = some (.string x.f2) := (blk_cell BK4.out 2).trans rfl; have zw43 : w4.cell? ⟨gb, 3, none⟩ = some (.slice A3 x.f3.length c3) := (blk_cell BK4.out 3).trans rfl; have zw44 : w4.cell? ⟨gb, 4, none⟩ = some (.slice A4 x.f4.length c4) := (blk_cell BK4.out 4).trans rfl))
    go_ret2
    exact ⟨by rw [hfin.out]; rfl, HB4.out⟩
  · have d0 : (f != 0) = true := bne_iff_ne.mpr h0
    have hfin : Aside0 (toldF x = ⟨#[]⟩) := ⟨by rw [ht.out, if_neg h0]⟩
    clear h0
    go_enter Tryd.func8, Tryd.ntmps8
    go_wp2_with (first | ((with_reducible refine gate_dst (N := 1) rfl ?_); refine box_event ?hg (N := 1) ?hd (cs := #[.int .i64 x.f0, .int .i64 x.f1, .string x.f2, .slice A3 x.f3.length c3, .slice A4 x.f4.length c4]) (t := 25) ?hr ?_; (case hd => rfl); (case hg => rfl); (case hr => first | (go_simp; done) | (go_simp; rfl)); intro gb hg w2 hbox hb; have HB2 := Aside0.mk (below_step HB.out hb); have BK := Aside0.mk hbox; clear hb hbox hg; have zw20 : w2.cell? ⟨gb, 0, none⟩ = some (.int .i64 x.f0) := (blk_cell BK.out 0).trans rfl; have zw21 : w2.cell? ⟨gb, 1, none⟩ = some (.int .i64 x.f1) := (blk_cell BK.out 1).trans rfl; have zw22 : w2.cell? ⟨gb, 2, none⟩ = some (.string x.f2) := (blk_cell BK.out 2).trans rfl; have zw23 : w2.cell? ⟨gb, 3, none⟩ = some (.slice A3 x.f3.length c3) := (blk_cell BK.out 3).trans rfl; have zw24 : w2.cell? ⟨gb, 4, none⟩ = some (.slice A4 x.f4.length c4) := (blk_cell BK.out 4).trans rfl) | (go_at_call 6; refine (HC.out _ (HI.out.below HB2.out) (HG.out.below HB2.out)).mono ?_; rintro e w3 ⟨rfl, hb⟩; have HB3 := Aside0.mk (below_step HB2.out hb); have BK3 := Aside0.mk (blk_below BK.out hb); clear hb; have zw30 : w3.cell? ⟨gb, 0, none⟩ = some (.int .i64 x.f0) := (blk_cell BK3.out 0).trans rfl; have zw31 : w3.cell? ⟨gb, 1, none⟩ = some (.int .i64 x.f1) := (blk_cell BK3.out 1).trans rfl; have zw32 : w3.cell? ⟨gb, 2, none⟩ = some (.string x.f2) := (blk_cell BK3.out 2).trans rfl; have zw33 : w3.cell? ⟨gb, 3, none⟩ = some (.slice A3 x.f3.length c3) := (blk_cell BK3.out 3).trans rfl; have zw34 : w3.cell? ⟨gb, 4, none⟩ = some (.slice A4 x.f4.length c4) := (blk_cell BK3.out 4).trans rfl))
    go_ret2
    exact ⟨by rw [hfin.out]; rfl, HB3.out⟩
theorem eta25 (x : S25) : (⟨x.f0, x.f1, x.f2, x.f3, x.f4⟩ : S25) = x := by cases x; rfl
theorem rFault_ev (x : S25) (hb : bulkF 6 x ≤ 100000000) : Ev (fun k => bagnallref_JsonFault.f k x.f0 x.f1 x.f2 x.f3 x.f4) (checkF x) := by
  have h1 := rfault_ev 6 x (by omega) (by omega)
  rw [six] at h1
  unfold bagnallref_JsonFault.f checkF
  refine Ev.bind h1 ?_
  by_cases h0 : faultF 6 x = 0
  · rw [if_pos h0]
    refine Ev.pos h0 ?_
    have hc := rcount_ev 6 [x] (by intro p hp; rw [List.mem_singleton.1 hp]; exact h0) (by intro p hp; rw [List.mem_singleton.1 hp]; omega) (by simp) (by have := count_le 6 x; simp; omega)
    have hs : ([x].map (countF 6)).sum = countF 6 x := by simp
    rw [hs] at hc
    have hc' : Ev (fun n => bagnallref_jsonCount.f n [(⟨x.f0, x.f1, x.f2, x.f3, x.f4⟩ : S25)]) ((countF 6 x : Nat) : Int) := by rw [eta25]; exact hc
    refine Ev.bind hc' ?_
    by_cases hn : 100 < countF 6 x
    · exact Ev.to (Ev.pos (by omega) (Ev.now _)) (by rw [if_pos (Or.inl hn)])
    · refine Ev.neg (by omega) (Ev.bind (rtext_ev 6 x h0 hb) ?_)
      rw [bz_size]
      by_cases hl : 600 < (textF 6 x).length
      · exact Ev.to (Ev.pos (by omega) (Ev.now _)) (by rw [if_pos (Or.inr hl)])
      · exact Ev.to (Ev.neg (by omega) (Ev.now _)) (by rw [if_neg (by omega)])
  · rw [if_neg h0]
    exact Ev.neg h0 (Ev.now _)
theorem rText_ev (x : S25) (hb : bulkF 6 x ≤ 100000000) : Ev (fun k => bagnallref_JsonText.f k x.f0 x.f1 x.f2 x.f3 x.f4) (toldF x, checkF x) := by
  unfold bagnallref_JsonText.f toldF
  refine Ev.bind (rFault_ev x hb) ?_
  by_cases h0 : checkF x = 0
  · exact Ev.to (Ev.pos h0 (Ev.bind (rtext_ev 6 x (check_fault h0) hb) (Ev.now _))) (by rw [if_pos h0, h0])
  · exact Ev.to (Ev.neg h0 (Ev.now _)) (by rw [if_neg h0])
theorem refFault_walk (x : S25) (hb : bulkF 6 x ≤ 100000000) (A3 : Option Addr) (c3 : Nat) (A4 : Option Addr) (c4 : Nat) (w : World) (h : InAt w x A3 c3 A4 c4) :
    Calls Tryd.prog 7 #[.agg #[.int .i64 x.f0, .int .i64 x.f1, .string x.f2, .slice A3 x.f3.length c3, .slice A4 x.f4.length c4]] w fun e w' => e = .returned (.int .i64 (checkF x)) ∧ Below w.heap.size w w' := by
  obtain ⟨k, hk⟩ := (rFault_ev x hb).rounds
  exact bagnallref_JsonFault.calls k _ _ _ (fun k => k < w.heap.size) A3 c3 _ (fun k => k < w.heap.size) A4 c4 _ _ w (Kd.V_mk h.1 (Kd.C_F Kd.heap_string h.2.1)) (Kd.V_mk h.2.2.1 (Kd.C_F k25_heap h.2.2.2)) hk
theorem refText_walk (x : S25) (hb : bulkF 6 x ≤ 100000000) (A3 : Option Addr) (c3 : Nat) (A4 : Option Addr) (c4 : Nat) (w : World) (h : InAt w x A3 c3 A4 c4) :
    Calls Tryd.prog 9 #[.agg #[.int .i64 x.f0, .int .i64 x.f1, .string x.f2, .slice A3 x.f3.length c3, .slice A4 x.f4.length c4]] w fun e w' => e = .returned (.tuple #[.string (toldF x), .int .i64 (checkF x)]) ∧ Below w.heap.size w w' := by
  obtain ⟨k, hk⟩ := (rText_ev x hb).rounds
  exact bagnallref_JsonText.calls k _ _ _ A3 c3 _ A4 c4 _ _ _ w h.2.1 h.1 h.2.2.2 h.2.2.1 hk
set_option maxRecDepth 100000 in
set_option maxHeartbeats 2000000 in
/-- The law of json.Text. -/
theorem textLaw_walk (x : S25) (hb : bulkF 6 x ≤ 100000000) (A3 : Option Addr) (c3 : Nat) (A4 : Option Addr) (c4 : Nat) (w : World) (h : InAt w x A3 c3 A4 c4) (hG : Glob w) :
    Calls Tryd.prog 4 #[.agg #[.int .i64 x.f0, .int .i64 x.f1, .string x.f2, .slice A3 x.f3.length c3, .slice A4 x.f4.length c4]] w fun e w' => e = .returned (.bool true) ∧ Below w.heap.size w w' := by
  have HG := Aside0.mk hG
  have HI := Aside0.mk h
  have HB := Aside0.mk (Below.refl w.heap.size w)
  have HT := Aside0.mk (text_walk x hb A3 c3 A4 c4)
  have HR := Aside0.mk (refText_walk x hb A3 c3 A4 c4)
  clear hG h hb
  obtain ⟨f, hf⟩ : ∃ f, f = checkF x := ⟨_, rfl⟩
  obtain ⟨t, ht⟩ : ∃ t, t = toldF x := ⟨_, rfl⟩
  rw [← hf, ← ht] at HT HR
  clear hf ht
  go_enter Tryd.func4, Tryd.ntmps4
  go_wp2_with (first | ((with_reducible refine gate_dst (N := 1) rfl ?_); refine box_event ?hg (N := 1) ?hd (cs := #[.int .i64 x.f0, .int .i64 x.f1, .string x.f2, .slice A3 x.f3.length c3, .slice A4 x.f4.length c4]) (t := 25) ?hr ?_; (case hd => rfl); (case hg => rfl); (case hr => first | (go_simp; done) | (go_simp; rfl)); intro gb hg w2 hbox hb; have HB2 := Aside0.mk (below_step HB.out hb); have BK := Aside0.mk hbox; clear hb hbox hg; have zw20 : w2.cell? ⟨gb, 0, none⟩ = some (.int .i64 x.f0) := (blk_cell BK.out 0).trans rfl; have zw21 : w2.cell? ⟨gb, 1, none⟩ = some (.int .i64 x.f1) := (blk_cell BK.out 1).trans rfl; have zw22 : w2.cell? ⟨gb, 2, none⟩ = some (.string x.f2) := (blk_cell BK.out 2).trans rfl; have zw23 : w2.cell? ⟨gb, 3, none⟩ = some (.slice A3 x.f3.length c3) := (blk_cell BK.out 3).trans rfl; have zw24 : w2.cell? ⟨gb, 4, none⟩ = some (.slice A4 x.f4.length c4) := (blk_cell BK.out 4).trans rfl) | (go_at_call 8; refine (HT.out _ (HI.out.below HB2.out) (HG.out.below HB2.out)).mono ?_; rintro e w3 ⟨rfl, hb⟩; have HB3 := Aside0.mk (below_step HB2.out hb); have BK3 := Aside0.mk (blk_below BK.out hb); clear hb; have zw30 : w3.cell? ⟨gb, 0, none⟩ = some (.int .i64 x.f0) := (blk_cell BK3.out 0).trans rfl; have zw31 : w3.cell? ⟨gb, 1, none⟩ = some (.int .i64 x.f1) := (blk_cell BK3.out 1).trans rfl; have zw32 : w3.cell? ⟨gb, 2, none⟩ = some (.string x.f2) := (blk_cell BK3.out 2).trans rfl; have zw33 : w3.cell? ⟨gb, 3, none⟩ = some (.slice A3 x.f3.length c3) := (blk_cell BK3.out 3).trans rfl; have zw34 : w3.cell? ⟨gb, 4, none⟩ = some (.slice A4 x.f4.length c4) := (blk_cell BK3.out 4).trans rfl) | (go_at_call 9; refine (HR.out _ (HI.out.below HB3.out)).mono ?_; rintro e w4 ⟨rfl, hb⟩; have HB4 := Aside0.mk (below_step HB3.out hb); have BK4 := Aside0.mk (blk_below BK3.out hb); clear hb; have zw40 : w4.cell? ⟨gb, 0, none⟩ = some (.int .i64 x.f0) := (blk_cell BK4.out 0).trans rfl; have zw41 : w4.cell? ⟨gb, 1, none⟩ = some (.int .i64 x.f1) := (blk_cell BK4.out 1).trans rfl; have zw42 : w4.cell? ⟨gb, 2, none⟩ = some (.string x.f2) := (blk_cell BK4.out 2).trans rfl; have zw43 : w4.cell? ⟨gb, 3, none⟩ = some (.slice A3 x.f3.length c3) := (blk_cell BK4.out 3).trans rfl; have zw44 : w4.cell? ⟨gb, 4, none⟩ = some (.slice A4 x.f4.length c4) := (blk_cell BK4.out 4).trans rfl))
  go_ret
  exact ⟨by first | rfl | simp, HB4.out⟩
end Go.Proofs.YtmecnjhjlhpehaaDoor.Q
