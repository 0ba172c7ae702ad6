/- The law of json.Check, walked. -/
import Derived.Test.YtmecnjhjlhpehaaDoorQTx
namespace Go.Proofs.YtmecnjhjlhpehaaDoor.Q
open Go.RowKit Go.Proofs.YtmecnjhjlhpehaaDoor.Plain Go.Proofs.YtmecnjhjlhpehaaDoorW.PrintWords Go.Proofs.YtmecnjhjlhpehaaDoorW.PrintLast Go.Proofs.YtmecnjhjlhpehaaDoorW.PrintMore
set_option linter.unusedVariables false
set_option linter.unusedSimpArgs false
set_option maxRecDepth 100000 in
set_option maxHeartbeats 2000000 in
theorem checkLaw_walk (x : S25) (hb : bulkF 6 x ≤ 100000000) (A3 : Option Addr) (c3 : Nat) (A4 : Option Addr) (c4 : Nat) (w : World) (h : InAt w x A3 c3 A4 c4) (hG : Glob w) :
    Calls Tryd.prog 3 #[.agg #[.int .i64 x.f0, .int .i64 x.f1, .string x.f2, .slice A3 x.f3.length c3, .slice A4 x.f4.length c4]] w fun e w' => e = .returned (.bool true) ∧ Below w.heap.size w w' := by
  have HG := Aside0.mk hG
  have HI := Aside0.mk h
  have HB := Aside0.mk (Below.refl w.heap.size w)
  have HC := Aside0.mk (check_walk x hb A3 c3 A4 c4)
  have HR := Aside0.mk (refFault_walk x hb A3 c3 A4 c4)
  clear hG h hb
  obtain ⟨f, hf⟩ : ∃ f, f = checkF x := ⟨_, rfl⟩
  rw [← hf] at HC HR
  clear hf
  go_enter Tryd.func3, Tryd.ntmps3
  go_wp2_with (first | ((with_reducible refine gate_dst (N := 1) rfl ?_); refine box_event ?hg (N := 1) ?hd (cs := #[.int .i64 x.f0, .int .i64 x.f1, .string x.f2, .slice A3 x.f3.length c3, .slice A4 x.f4.length c4]) (t := 25) ?hr ?_; (case hd => rfl); (case hg => rfl); (case hr => first | (go_simp; done) | (go_simp; rfl)); intro gb hg w2 hbox hb; have HB2 := Aside0.mk (below_step HB.out hb); have BK := Aside0.mk hbox; clear hb hbox hg; have zw20 : w2.cell? ⟨gb, 0, none⟩ = some (.int .i64 x.f0) := (blk_cell BK.out 0).trans rfl; have zw21 : w2.cell? ⟨gb, 1, none⟩ = some (.int .i64 x.f1) := (blk_cell BK.out 1).trans rfl; have zw22 : w2.cell? ⟨gb, 2, none⟩ = some (.string x.f2) := (blk_cell BK.out 2).trans rfl; have zw23 : w2.cell? ⟨gb, 3, none⟩ = some (.slice A3 x.f3.length c3) := (blk_cell BK.out 3).trans rfl; have zw24 : w2.cell? ⟨gb, 4, none⟩ = some (.slice A4 x.f4.length c4) := (blk_cell BK.out 4).trans rfl))
  have hS : ∀ W, Below w2.heap.size w2 W → (fun w' => w'.cell? ⟨gb, 0, none⟩ = some (.int .i64 x.f0) ∧ w'.cell? ⟨gb, 1, none⟩ = some (.int .i64 x.f1) ∧ w'.cell? ⟨gb, 2, none⟩ = some (.string x.f2) ∧ w'.cell? ⟨gb, 3, none⟩ = some (.slice A3 x.f3.length c3) ∧ w'.cell? ⟨gb, 4, none⟩ = some (.slice A4 x.f4.length c4) ∧ Below w2.heap.size w2 w') W := fun W hW => ⟨(blk_cell (blk_below BK.out hW) 0).trans rfl, (blk_cell (blk_below BK.out hW) 1).trans rfl, (blk_cell (blk_below BK.out hW) 2).trans rfl, (blk_cell (blk_below BK.out hW) 3).trans rfl, (blk_cell (blk_below BK.out hW) 4).trans rfl, hW⟩
  have hS0 := hS w2 (Below.refl _ _)
  go_region_held3 (fun w' => w'.cell? ⟨gb, 0, none⟩ = some (.int .i64 x.f0) ∧ w'.cell? ⟨gb, 1, none⟩ = some (.int .i64 x.f1) ∧ w'.cell? ⟨gb, 2, none⟩ = some (.string x.f2) ∧ w'.cell? ⟨gb, 3, none⟩ = some (.slice A3 x.f3.length c3) ∧ w'.cell? ⟨gb, 4, none⟩ = some (.slice A4 x.f4.length c4) ∧ Below w2.heap.size w2 w') (first | assumption | exact hS _ (below_drew (Below.refl _ _))) (first | (go_at_call 6; refine (HC.out _ (HI.out.below (below_step HB2.out (And.right (And.right (And.right (And.right (And.right (by assumption)))))))) (HG.out.below (below_step HB2.out (And.right (And.right (And.right (And.right (And.right (by assumption))))))))).mono ?_; rintro e w4 ⟨rfl, hb⟩; have hS1 := hS _ (below_step (And.right (And.right (And.right (And.right (And.right (by assumption)))))) hb); clear hb) | (go_at_call 7; refine (HR.out _ (HI.out.below (below_step HB2.out (And.right (And.right (And.right (And.right (And.right (by assumption))))))))).mono ?_; rintro e w4 ⟨rfl, hb⟩; have hS1 := hS _ (below_step (And.right (And.right (And.right (And.right (And.right (by assumption)))))) hb); clear hb))
  all_goals
    go_wp2
    go_ret
    exact ⟨by first | rfl | simp, by first | exact below_step HB2.out (And.right (And.right (And.right (And.right (And.right (by assumption))))))⟩
end Go.Proofs.YtmecnjhjlhpehaaDoor.Q
