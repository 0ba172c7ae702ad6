/- json.Check, json.Text, walked; the reference's JsonFault and JsonText say the same. -/
import Derived.Test.YtmecnjhjlhpehaaDoorQOf
namespace Go.Proofs.YtmecnjhjlhpehaaDoor.Q
open Go.RowKit Go.Proofs.YtmecnjhjlhpehaaDoor.Plain Go.Proofs.YtmecnjhjlhpehaaDoorW.PrintWords Go.Proofs.YtmecnjhjlhpehaaDoorW.PrintLast Go.Proofs.YtmecnjhjlhpehaaDoorW.PrintMore
set_option linter.unusedVariables false
set_option linter.unusedSimpArgs false
/-- A value lies there. -/
def InAt (w : World) (x : S25) (A3 : Option Addr) (c3 : Nat) (A4 : Option Addr) (c4 : Nat) : Prop := x.f3.length ≤ c3 ∧ Kd.C Kd.string w A3 x.f3.length x.f3 ∧ x.f4.length ≤ c4 ∧ Kd.C k25 w A4 x.f4.length x.f4
theorem InAt.below {w W : World} {x : S25} {A3 : Option Addr} {c3 : Nat} {A4 : Option Addr} {c4 : Nat} (h : InAt w x A3 c3 A4 c4) (hb : Below w.heap.size w W) : InAt W x A3 c3 A4 c4 :=
  ⟨h.1, Kd.C_below h.2.1 hb, h.2.2.1, Kd.C_below h.2.2.2 hb⟩
def argV (x : S25) (A3 : Option Addr) (c3 : Nat) (A4 : Option Addr) (c4 : Nat) : Value := .agg #[.int .i64 x.f0, .int .i64 x.f1, .string x.f2, .slice A3 x.f3.length c3, .slice A4 x.f4.length c4]
/-- What json.Check tells. -/
def checkF (x : S25) : Int := if faultF 6 x = 0 then (if 100 < countF 6 x ∨ 600 < (textF 6 x).length then 1 else 0) else faultF 6 x
theorem six : (6 : Int) - ((6 : Nat) : Int) = 0 := by omega
theorem fault_walk (x : S25) (hb : bulkF 6 x ≤ 100000000) (A3 : Option Addr) (c3 : Nat) (A4 : Option Addr) (c4 : Nat) (w : World) (h : InAt w x A3 c3 A4 c4) :
    Calls Tryd.prog 12 #[.agg #[.int .i64 x.f0, .int .i64 x.f1, .string x.f2, .slice A3 x.f3.length c3, .slice A4 x.f4.length c4], .int .i64 0] w fun e w' => e = .returned (.int .i64 (faultF 6 x)) ∧ Below w.heap.size w w' := by
  obtain ⟨k, hk⟩ := (fault_ev 6 x (by omega) (by omega)).rounds
  rw [six] at hk
  exact json_fault.calls k _ _ _ A3 c3 _ A4 c4 _ _ _ w h.2.1 h.1 h.2.2.2 h.2.2.1 hk
theorem count_walk (x : S25) (hf : faultF 6 x = 0) (hb : bulkF 6 x ≤ 100000000) (A3 : Option Addr) (c3 : Nat) (A4 : Option Addr) (c4 : Nat) (w : World) (h : InAt w x A3 c3 A4 c4) :
    Calls Tryd.prog 13 #[.agg #[.int .i64 x.f0, .int .i64 x.f1, .string x.f2, .slice A3 x.f3.length c3, .slice A4 x.f4.length c4]] w fun e w' => e = .returned (.int .i64 ((countF 6 x : Nat) : Int)) ∧ Below w.heap.size w w' := by
  obtain ⟨k, hk⟩ := (count_ev 6 x hf (by omega)).rounds
  exact json_count.calls k _ _ _ A3 c3 _ A4 c4 _ _ w h.2.1 h.1 h.2.2.2 h.2.2.1 hk
theorem of_walk (x : S25) (hf : faultF 6 x = 0) (hb : bulkF 6 x ≤ 100000000) (A3 : Option Addr) (c3 : Nat) (A4 : Option Addr) (c4 : Nat) (w : World) (h : InAt w x A3 c3 A4 c4) (hG : Glob w) :
    Calls Tryd.prog 14 #[.agg #[.int .i64 x.f0, .int .i64 x.f1, .string x.f2, .slice A3 x.f3.length c3, .slice A4 x.f4.length c4]] w fun e w' => e = .returned (.string (bz (textF 6 x))) ∧ Below w.heap.size w w' :=
  Of_walk 6 x hf hb A3 c3 A4 c4 w h.1 h.2.1 h.2.2.1 h.2.2.2 hG
set_option maxRecDepth 100000 in
set_option maxHeartbeats 2000000 in
theorem check_walk (x : S25) (hb : bulkF 6 x ≤ 100000000) (A3 : Option Addr) (c3 : Nat) (A4 : Option Addr) (c4 : Nat) (w : World) (h : InAt w x A3 c3 A4 c4) (hG : Glob w) :
    Calls Tryd.prog 6 #[.agg #[.int .i64 x.f0, .int .i64 x.f1, .string x.f2, .slice A3 x.f3.length c3, .slice A4 x.f4.length c4]] w fun e w' => e = .returned (.int .i64 (checkF x)) ∧ Below w.heap.size w w' := by
  have HG := Aside0.mk hG
  have HI := Aside0.mk h
  have HBk := Aside0.mk hb
  have HB := Aside0.mk (Below.refl w.heap.size w)
  clear hG h hb
  have hcf : Aside0 (checkF x = if faultF 6 x = 0 then (if (100 : Int) < ((countF 6 x : Nat) : Int) ∨ 600 < (textF 6 x).length then 1 else 0) else faultF 6 x) := ⟨by
    unfold checkF
    by_cases h : 100 < countF 6 x
    · have h' : (100 : Int) < ((countF 6 x : Nat) : Int) := by omega
      simp [h, h']
    · have h' : ¬ (100 : Int) < ((countF 6 x : Nat) : Int) := by omega
      simp [h, h']⟩
  have HF := Aside0.mk (fault_walk x HBk.out A3 c3 A4 c4)
  have HC := Aside0.mk (fun hf => count_walk x hf HBk.out A3 c3 A4 c4)
  have HO := Aside0.mk (fun hf => of_walk x hf HBk.out A3 c3 A4 c4)
  obtain ⟨f, hf⟩ : ∃ f, f = faultF 6 x := ⟨_, rfl⟩
  obtain ⟨n, hn⟩ : ∃ n : Int, n = ((countF 6 x : Nat) : Int) := ⟨_, rfl⟩
  obtain ⟨t, ht⟩ : ∃ t, t = textF 6 x := ⟨_, rfl⟩
  rw [← hf, ← hn, ← ht] at hcf
  rw [← hf] at HF
  rw [← hf, ← hn] at HC
  rw [← hf, ← ht] at HO
  clear hf hn ht
  by_cases h0 : f = 0
  · subst h0
    replace HC := Aside0.mk (HC.out rfl)
    replace HO := Aside0.mk (HO.out rfl)
    have hsz := bz_size t
    by_cases h1 : 100 < n
    · have d1 : decide (100 < n) = true := decide_eq_true h1
      have hfin : Aside0 (checkF x = 1) := ⟨by rw [hcf.out, if_pos rfl, if_pos (Or.inl h1)]⟩
      clear h1 hsz
      go_enter Tryd.func6, Tryd.ntmps6
      go_wp2_with (first | ((with_reducible refine gate_dst (N := 1) rfl ?_); refine box_event ?hg (N := 1) ?hd (cs := #[.int .i64 x.f0, .int .i64 x.f1, .string x.f2, .slice A3 x.f3.length c3, .slice A4 x.f4.length c4]) (t := 25) ?hr ?_; (case hd => rfl); (case hg => rfl); (case hr => first | (go_simp; done) | (go_simp; rfl)); intro gb hg w2 hbox hb; have HB2 := Aside0.mk (below_step HB.out hb); have BK := Aside0.mk hbox; clear hb hbox hg; have zw20 : w2.cell? ⟨gb, 0, none⟩ = some (.int .i64 x.f0) := (blk_cell BK.out 0).trans rfl; have zw21 : w2.cell? ⟨gb, 1, none⟩ = some (.int .i64 x.f1) := (blk_cell BK.out 1).trans rfl; have zw22 : w2.cell? ⟨gb, 2, none⟩ = some (.string x.f2) := (blk_cell BK.out 2).trans rfl; have zw23 : w2.cell? ⟨gb, 3, none⟩ = some (.slice A3 x.f3.length c3) := (blk_cell BK.out 3).trans rfl; have zw24 : w2.cell? ⟨gb, 4, none⟩ = some (.slice A4 x.f4.length c4) := (blk_cell BK.out 4).trans rfl) | (go_at_call 12; refine (HF.out _ (HI.out.below HB2.out)).mono ?_; rintro e w3 ⟨rfl, hb⟩; have HB3 := Aside0.mk (below_step HB2.out hb); have BK3 := Aside0.mk (blk_below BK.out hb); clear hb; have zw30 : w3.cell? ⟨gb, 0, none⟩ = some (.int .i64 x.f0) := (blk_cell BK3.out 0).trans rfl; have zw31 : w3.cell? ⟨gb, 1, none⟩ = some (.int .i64 x.f1) := (blk_cell BK3.out 1).trans rfl; have zw32 : w3.cell? ⟨gb, 2, none⟩ = some (.string x.f2) := (blk_cell BK3.out 2).trans rfl; have zw33 : w3.cell? ⟨gb, 3, none⟩ = some (.slice A3 x.f3.length c3) := (blk_cell BK3.out 3).trans rfl; have zw34 : w3.cell? ⟨gb, 4, none⟩ = some (.slice A4 x.f4.length c4) := (blk_cell BK3.out 4).trans rfl) | (go_at_call 13; refine (HC.out _ (HI.out.below HB3.out)).mono ?_; rintro e w4 ⟨rfl, hb⟩; have HB4 := Aside0.mk (below_step HB3.out hb); have BK4 := Aside0.mk (blk_below BK3.out hb); clear hb; have zw40 : w4.cell? ⟨gb, 0, none⟩ = some (.int .i64 x.f0) := (blk_cell BK4.out 0).trans rfl; have zw41 : w4.cell? ⟨gb, 1, none⟩ = some (.int .i64 x.f1) := (blk_cell BK4.out 1).trans rfl; have zw42 : w4.cell? ⟨gb, 2, none⟩ = some (.string x.f2) := (blk_cell BK4.out 2).trans rfl; have zw43 : w4.cell? ⟨gb, 3, none⟩ = some (.slice A3 x.f3.length c3) := (blk_cell BK4.out 3).trans rfl; have zw44 : w4.cell? ⟨gb, 4, none⟩ = some (.slice A4 x.f4.length c4) := (blk_cell BK4.out 4).trans rfl))
      go_ret
      exact ⟨by rw [hfin.out]; rfl, HB4.out⟩
    · have d1 : decide (100 < n) = false := decide_eq_false h1
      by_cases h2 : 600 < t.length
      · have d2 : decide (600 < (bz t).size) = true := decide_eq_true (by omega)
        have d3 : decide ((600 : Int) < ((bz t).size : Int)) = true := decide_eq_true (by omega)
        have hfin : Aside0 (checkF x = 1) := ⟨by rw [hcf.out, if_pos rfl, if_pos (Or.inr h2)]⟩
        clear h1 h2 hsz
        go_enter Tryd.func6, Tryd.ntmps6
        go_wp2_with (first | ((with_reducible refine gate_dst (N := 1) rfl ?_); refine box_event ?hg (N := 1) ?hd (cs := #[.int .i64 x.f0, .int .i64 x.f1, .string x.f2, .slice A3 x.f3.length c3, .slice A4 x.f4.length c4]) (t := 25) ?hr ?_; (case hd => rfl); (case hg => rfl); (case hr => first | (go_simp; done) | (go_simp; rfl)); intro gb hg w2 hbox hb; have HB2 := Aside0.mk (below_step HB.out hb); have BK := Aside0.mk hbox; clear hb hbox hg; have zw20 : w2.cell? ⟨gb, 0, none⟩ = some (.int .i64 x.f0) := (blk_cell BK.out 0).trans rfl; have zw21 : w2.cell? ⟨gb, 1, none⟩ = some (.int .i64 x.f1) := (blk_cell BK.out 1).trans rfl; have zw22 : w2.cell? ⟨gb, 2, none⟩ = some (.string x.f2) := (blk_cell BK.out 2).trans rfl; have zw23 : w2.cell? ⟨gb, 3, none⟩ = some (.slice A3 x.f3.length c3) := (blk_cell BK.out 3).trans rfl; have zw24 : w2.cell? ⟨gb, 4, none⟩ = some (.slice A4 x.f4.length c4) := (blk_cell BK.out 4).trans rfl) | (go_at_call 12; refine (HF.out _ (HI.out.below HB2.out)).mono ?_; rintro e w3 ⟨rfl, hb⟩; have HB3 := Aside0.mk (below_step HB2.out hb); have BK3 := Aside0.mk (blk_below BK.out hb); clear hb; have zw30 : w3.cell? ⟨gb, 0, none⟩ = some (.int .i64 x.f0) := (blk_cell BK3.out 0).trans rfl; have zw31 : w3.cell? ⟨gb, 1, none⟩ = some (.int .i64 x.f1) := (blk_cell BK3.out 1).trans rfl; have zw32 : w3.cell? ⟨gb, 2, none⟩ = some (.string x.f2) := (blk_cell BK3.out 2).trans rfl; have zw33 : w3.cell? ⟨gb, 3, none⟩ = some (.slice A3 x.f3.length c3) := (blk_cell BK3.out 3).trans rfl; have zw34 : w3.cell? ⟨gb, 4, none⟩ = some (.slice A4 x.f4.length c4) := (blk_cell BK3.out 4).trans rfl) | (go_at_call 13; refine (HC.out _ (HI.out.below HB3.out)).mono ?_; rintro e w4 ⟨rfl, hb⟩; have HB4 := Aside0.mk (below_step HB3.out hb); have BK4 := Aside0.mk (blk_below BK3.out hb); clear hb; have zw40 : w4.cell? ⟨gb, 0, none⟩ = some (.int .i64 x.f0) := (blk_cell BK4.out 0).trans rfl; have zw41 : w4.cell? ⟨gb, 1, none⟩ = some (.int .i64 x.f1) := (blk_cell BK4.out 1).trans rfl; have zw42 : w4.cell? ⟨gb, 2, none⟩ = some (.string x.f2) := (blk_cell BK4.out 2).trans rfl; have zw43 : w4.cell? ⟨gb, 3, none⟩ = some (.slice A3 x.f3.length c3) := (blk_cell BK4.out 3).trans rfl; have zw44 : w4.cell? ⟨gb, 4, none⟩ = some (.slice A4 x.f4.length c4) := (blk_cell BK4.out 4).trans rfl) | (go_at_call 14; refine (HO.out _ (HI.out.below HB4.out) (HG.out.below HB4.out)).mono ?_; rintro e w5 ⟨rfl, hb⟩; have HB5 := Aside0.mk (below_step HB4.out hb); have BK5 := Aside0.mk (blk_below BK4.out hb); clear hb; have zw50 : w5.cell? ⟨gb, 0, none⟩ = some (.int .i64 x.f0) := (blk_cell BK5.out 0).trans rfl; have zw51 : w5.cell? ⟨gb, 1, none⟩ = some (.int .i64 x.f1) := (blk_cell BK5.out 1).trans rfl; have zw52 : w5.cell? ⟨gb, 2, none⟩ = some (.string x.f2) := (blk_cell BK5.out 2).trans rfl; have zw53 : w5.cell? ⟨gb, 3, none⟩ = some (.slice A3 x.f3.length c3) := (blk_cell BK5.out 3).trans rfl; have zw54 : w5.cell? ⟨gb, 4, none⟩ = some (.slice A4 x.f4.length c4) := (blk_cell BK5.out 4).trans rfl))
        go_ret
        exact ⟨by rw [hfin.out]; rfl, HB5.out⟩
      · have d2 : decide (600 < (bz t).size) = false := decide_eq_false (by omega)
        have d3 : decide ((600 : Int) < ((bz t).size : Int)) = false := decide_eq_false (by omega)
        have hfin : Aside0 (checkF x = 0) := ⟨by rw [hcf.out, if_pos rfl, if_neg (by omega)]⟩
        clear h1 h2 hsz
        go_enter Tryd.func6, Tryd.ntmps6
        go_wp2_with (first | ((with_reducible refine gate_dst (N := 1) rfl ?_); refine box_event ?hg (N := 1) ?hd (cs := #[.int .i64 x.f0, .int .i64 x.f1, .string x.f2, .slice A3 x.f3.length c3, .slice A4 x.f4.length c4]) (t := 25) ?hr ?_; (case hd => rfl); (case hg => rfl); (case hr => first | (go_simp; done) | (go_simp; rfl)); intro gb hg w2 hbox hb; have HB2 := Aside0.mk (below_step HB.out hb); have BK := Aside0.mk hbox; clear hb hbox hg; have zw20 : w2.cell? ⟨gb, 0, none⟩ = some (.int .i64 x.f0) := (blk_cell BK.out 0).trans rfl; have zw21 : w2.cell? ⟨gb, 1, none⟩ = some (.int .i64 x.f1) := (blk_cell BK.out 1).trans rfl; have zw22 : w2.cell? ⟨gb, 2, none⟩ = some (.string x.f2) := (blk_cell BK.out 2).trans rfl; have zw23 : w2.cell? ⟨gb, 3, none⟩ = some (.slice A3 x.f3.length c3) := (blk_cell BK.out 3).trans rfl; have zw24 : w2.cell? ⟨gb, 4, none⟩ = some (.slice A4 x.f4.length c4) := (blk_cell BK.out 4).trans rfl) | (go_at_call 12; refine (HF.out _ (HI.out.below HB2.out)).mono ?_; rintro e w3 ⟨rfl, hb⟩; have HB3 := Aside0.mk (below_step HB2.out hb); have BK3 := Aside0.mk (blk_below BK.out hb); clear hb; have zw30 : w3.cell? ⟨gb, 0, none⟩ = some (.int .i64 x.f0) := (blk_cell BK3.out 0).trans rfl; have zw31 : w3.cell? ⟨gb, 1, none⟩ = some (.int .i64 x.f1) := (blk_cell BK3.out 1).trans rfl; have zw32 : w3.cell? ⟨gb, 2, none⟩ = some (.string x.f2) := (blk_cell BK3.out 2).trans rfl; have zw33 : w3.cell? ⟨gb, 3, none⟩ = some (.slice A3 x.f3.length c3) := (blk_cell BK3.out 3).trans rfl; have zw34 : w3.cell? ⟨gb, 4, none⟩ = some (.slice A4 x.f4.length c4) := (blk_cell BK3.out 4).trans rfl) | (go_at_call 13; refine (HC.out _ (HI.out.below HB3.out)).mono ?_; rintro e w4 ⟨rfl, hb⟩; have HB4 := Aside0.mk (below_step HB3.out hb); have BK4 := Aside0.mk (blk_below BK3.out hb); clear hb; have zw40 : w4.cell? ⟨gb, 0, none⟩ = some (.int .i64 x.f0) := (blk_cell BK4.out 0).trans rfl; have zw41 : w4.cell? ⟨gb, 1, none⟩ = some (.int .i64 x.f1) := (blk_cell BK4.out 1).trans rfl; have zw42 : w4.cell? ⟨gb, 2, none⟩ = some (.string x.f2) := (blk_cell BK4.out 2).trans rfl; have zw43 : w4.cell? ⟨gb, 3, none⟩ = some (.slice A3 x.f3.length c3) := (blk_cell BK4.out 3).trans rfl; have zw44 : w4.cell? ⟨gb, 4, none⟩ = some (.slice A4 x.f4.length c4) := (blk_cell BK4.out 4).trans rfl) | (go_at_call 14; refine (HO.out _ (HI.out.below HB4.out) (HG.out.below HB4.out)).mono ?_; rintro e w5 ⟨rfl, hb⟩; have HB5 := Aside0.mk (below_step HB4.out hb); have BK5 := Aside0.mk (blk_below BK4.out hb); clear hb; have zw50 : w5.cell? ⟨gb, 0, none⟩ = some (.int .i64 x.f0) := (blk_cell BK5.out 0).trans rfl; have zw51 : w5.cell? ⟨gb, 1, none⟩ = some (.int .i64 x.f1) := (blk_cell BK5.out 1).trans rfl; have zw52 : w5.cell? ⟨gb, 2, none⟩ = some (.string x.f2) := (blk_cell BK5.out 2).trans rfl; have zw53 : w5.cell? ⟨gb, 3, none⟩ = some (.slice A3 x.f3.length c3) := (blk_cell BK5.out 3).trans rfl; have zw54 : w5.cell? ⟨gb, 4, none⟩ = some (.slice A4 x.f4.length c4) := (blk_cell BK5.out 4).trans rfl))
        go_ret
        exact ⟨by rw [hfin.out]; rfl, HB5.out⟩
  · have d0 : (f != 0) = true := bne_iff_ne.mpr h0
    have hfin : Aside0 (checkF x = f) := ⟨by rw [hcf.out, if_neg h0]⟩
    clear h0
    go_enter Tryd.func6, Tryd.ntmps6
    go_wp2_with (first | ((with_reducible refine gate_dst (N := 1) rfl ?_); refine box_event ?hg (N := 1) ?hd (cs := #[.int .i64 x.f0, .int .i64 x.f1, .string x.f2, .slice A3 x.f3.length c3, .slice A4 x.f4.length c4]) (t := 25) ?hr ?_; (case hd => rfl); (case hg => rfl); (case hr => first | (go_simp; done) | (go_simp; rfl)); intro gb hg w2 hbox hb; have HB2 := Aside0.mk (below_step HB.out hb); have BK := Aside0.mk hbox; clear hb hbox hg; have zw20 : w2.cell? ⟨gb, 0, none⟩ = some (.int .i64 x.f0) := (blk_cell BK.out 0).trans rfl; have zw21 : w2.cell? ⟨gb, 1, none⟩ = some (.int .i64 x.f1) := (blk_cell BK.out 1).trans rfl; have zw22 : w2.cell? ⟨gb, 2, none⟩ = some (.string x.f2) := (blk_cell BK.out 2).trans rfl; have zw23 : w2.cell? ⟨gb, 3, none⟩ = some (.slice A3 x.f3.length c3) := (blk_cell BK.out 3).trans rfl; have zw24 : w2.cell? ⟨gb, 4, none⟩ = some (.slice A4 x.f4.length c4) := (blk_cell BK.out 4).trans rfl) | (go_at_call 12; refine (HF.out _ (HI.out.below HB2.out)).mono ?_; rintro e w3 ⟨rfl, hb⟩; have HB3 := Aside0.mk (below_step HB2.out hb); have BK3 := Aside0.mk (blk_below BK.out hb); clear hb; have zw30 : w3.cell? ⟨gb, 0, none⟩ = some (.int .i64 x.f0) := (blk_cell BK3.out 0).trans rfl; have zw31 : w3.cell? ⟨gb, 1, none⟩ = some (.int .i64 x.f1) := (blk_cell BK3.out 1).trans rfl; have zw32 : w3.cell? ⟨gb, 2, none⟩ = some (.string x.f2) := (blk_cell BK3.out 2).trans rfl; have zw33 : w3.cell? ⟨gb, 3, none⟩ = some (.slice A3 x.f3.length c3) := (blk_cell BK3.out 3).trans rfl; have zw34 : w3.cell? ⟨gb, 4, none⟩ = some (.slice A4 x.f4.length c4) := (blk_cell BK3.out 4).trans rfl))
    go_ret
    exact ⟨by rw [hfin.out]; rfl, HB3.out⟩
end Go.Proofs.YtmecnjhjlhpehaaDoor.Q
