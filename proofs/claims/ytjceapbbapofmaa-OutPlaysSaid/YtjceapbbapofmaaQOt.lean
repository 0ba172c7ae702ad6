/- out.Out's Tick, walked. -/
import Derived.Test.YtjceapbbapofmaaQOo
import Derived.Test.YtjceapbbapofmaaQCl
import Derived.Deep.RegionHeld3
import Derived.Deep.QuietTactic
import Derived.BigQuiet
namespace Go.Proofs.Ytjceapbbapofmaa.Q
open Go.RowKit Go.Proofs.YtjceapbbapofmaaW.PrintWords Go.Proofs.YtjceapbbapofmaaW.PrintLast Go.Proofs.YtjceapbbapofmaaW.PrintMore Go.Proofs.Ytjceapbbapofmaa.Plain
/-- How Tick ends. -/
def TPost (base g : Nat) (ob : Option Nat) (w : World) (r : (Nat × List ByteArray) × OSt) (e : Ending) (w' : World) : Prop := ∃ v, e = .returned (.tuple #[.int .i64 r.1.1, v]) ∧ Kd.string.R 9 w' w.heap.size (fun _ => True) v r.1.2 ∧ OutAt w' base g ob r.2 ∧ ModO g ob base w w'
theorem clone_walk (A : Option Addr) (c : Nat) (l : List ByteArray) (w : World) (hr : Kd.C Kd.string w A l.length l) (hc : l.length ≤ c) (hl : l.length ≤ 1000) :
    Calls Try.prog 71 #[.slice A l.length c] w fun e w' => ∃ v0_ : Value, e = .returned v0_ ∧ Kd.R Kd.string 9 w' w.heap.size (fun _ => True) v0_ l ∧ Below w.heap.size w w' :=
  slices_Clone_string_string.calls A c l l w hr hc (by unfold slices_Clone_string_string.f; rw [if_pos (by omega)])
set_option maxRecDepth 100000 in
set_option maxHeartbeats 8000000 in
theorem tick_walk (base g : Nat) (ob : Option Nat) (s : OSt) (n : Nat) (w : World) (h : OutAt w base g ob s) (hn : n ≤ 1000) (hi : s.items.length ≤ 60) (hs : s.size ≤ s.items.length) (hb : s.batch ≤ 1000) (hc : s.clock ≤ 1000000) :
    Calls Try.prog 60 #[.pointer (some ⟨g, 0, none⟩), .int .i64 (n : Int)] w (TPost base g ob w (tickF s n)) := by
  obtain ⟨A, c, hob, h1, h2, h3⟩ := h
  have HOB := Aside0.mk hob
  clear hob
  have HR := Aside0.mk (Kd.R_reads' h3)
  have z0 : w.cell? ⟨g, 0, none⟩ = some (.slice A s.items.length c) := by rw [blk_cell h1]; rfl
  have z1 : w.cell? ⟨g, 1, none⟩ = some (.int .i64 s.size) := by rw [blk_cell h1]; rfl
  have z2 : w.cell? ⟨g, 2, none⟩ = some (.int .i64 s.batch) := by rw [blk_cell h1]; rfl
  have z3 : w.cell? ⟨g, 3, none⟩ = some (.bool s.away) := by rw [blk_cell h1]; rfl
  have z5 : w.cell? ⟨g, 5, none⟩ = some (.int .i64 s.clock) := by rw [blk_cell h1]; rfl
  have z6 : w.cell? ⟨g, 6, none⟩ = some (.int .i64 s.frm) := by rw [blk_cell h1]; rfl
  have f1 := blk_frozen h1 1
  have f2 := blk_frozen h1 2
  have f3 := blk_frozen h1 3
  have f5 := blk_frozen h1 5
  -- behind the clock
  have hc5 : (w.setCell ⟨g, 5, none⟩ (.int .i64 ((s.clock : Int) + (n : Int)))).heap[g]? = some (.cells #[.slice A s.items.length c, .int .i64 s.size, .int .i64 s.batch, .bool s.away, .int .i64 s.fails, .int .i64 ((s.clock + n : Nat) : Int), .int .i64 s.frm] 70 (0, 0)) := by rw [heap_set1 h1]; simp
  have hR5 : Kd.string.R 9 (w.setCell ⟨g, 5, none⟩ (.int .i64 ((s.clock : Int) + (n : Int)))) base (fun _ => True) (.slice A s.items.length c) s.items := Kd.R_set h3 h1 (fun q hq => by rw [E9 q hq]; decide) _ _
  have hM5 : ModO g ob base w (w.setCell ⟨g, 5, none⟩ (.int .i64 ((s.clock : Int) + (n : Int)))) := ModO.set7 h1 h2
  have hO5 : Aside0 (OutAt (w.setCell ⟨g, 5, none⟩ (.int .i64 ((s.clock : Int) + (n : Int)))) base g ob { s with clock := s.clock + n }) := ⟨⟨A, c, HOB.out, hc5, h2, hR5⟩⟩
  have H1 := Aside0.mk h1
  have HC5 := Aside0.mk hc5
  have HR5 := Aside0.mk hR5
  have HM5 := Aside0.mk hM5
  clear h1 h3 hc5 hR5 hM5
  have hcn : ((s.clock + n : Nat) : Int) = (s.clock : Int) + (n : Int) := by simp
  go_enter Try.func60, Try.ntmps60
  go_upto_region 2 with (fail)
  obtain ⟨W5, hW5⟩ : ∃ W, W = w.setCell ⟨g, 5, none⟩ (.int .i64 ((s.clock : Int) + (n : Int))) := ⟨_, rfl⟩
  rw [← hW5] at HC5 HR5 HM5 hO5 ⊢
  clear hW5 z0 z1 z2 z3 z5 z6 f1 f2 f3 f5 HR H1
  have h1 := HC5.out
  rw [hcn] at h1
  have z0 : W5.cell? ⟨g, 0, none⟩ = some (.slice A s.items.length c) := by rw [blk_cell h1]; rfl
  have z1 : W5.cell? ⟨g, 1, none⟩ = some (.int .i64 s.size) := by rw [blk_cell h1]; rfl
  have z2 : W5.cell? ⟨g, 2, none⟩ = some (.int .i64 s.batch) := by rw [blk_cell h1]; rfl
  have z3 : W5.cell? ⟨g, 3, none⟩ = some (.bool s.away) := by rw [blk_cell h1]; rfl
  have z5 : W5.cell? ⟨g, 5, none⟩ = some (.int .i64 ((s.clock : Int) + (n : Int))) := by rw [blk_cell h1]; rfl
  have z6 : W5.cell? ⟨g, 6, none⟩ = some (.int .i64 s.frm) := by rw [blk_cell h1]; rfl
  clear h1 hcn
  by_cases haw : s.away = true
  · have hr : Aside0 (tickF s n = ((0, []), { s with clock := s.clock + n })) := ⟨by unfold tickF; rw [if_pos (.inl haw)]⟩
    rw [haw] at z3
    clear haw
    go_quiet (fail)
    go_wp2
    go_ret2
    rw [hr.out]
    exact ⟨_, rfl, Kd.R_nil _ _ _ _ _, hO5.out.below (pw_below_drewN (Below.refl _ _) _), HM5.out.trans (ModO.drewN _ _ _ _ _)⟩
  have haw' : s.away = false := by cases h : s.away <;> simp_all
  rw [haw'] at z3
  have HAW := Aside0.mk haw'
  clear haw haw'
  by_cases hit : s.items = []
  · have hr : Aside0 (tickF s n = ((0, []), { s with clock := s.clock + n })) := ⟨by unfold tickF; rw [if_pos (.inr (.inl hit))]⟩
    have hit' : ((s.items.length : Int) == 0) = true := by rw [hit]; rfl
    clear hit
    go_quiet (fail)
    go_wp2
    go_ret2
    rw [hr.out]
    exact ⟨_, rfl, Kd.R_nil _ _ _ _ _, hO5.out.below (pw_below_drewN (Below.refl _ _) _), HM5.out.trans (ModO.drewN _ _ _ _ _)⟩
  have hpos : 0 < s.items.length := List.length_pos_iff.2 hit
  have hit' : ((s.items.length : Int) == 0) = false := beq_false_of_ne (by omega)
  have HIT := Aside0.mk hit
  clear hit
  by_cases hcf : s.clock + n < s.frm
  · have hr : Aside0 (tickF s n = ((0, []), { s with clock := s.clock + n })) := ⟨by unfold tickF; rw [if_pos (.inr (.inr hcf))]⟩
    have hcf' : (s.clock : Int) + (n : Int) < (s.frm : Int) := by omega
    go_quiet (fail)
    go_wp2
    go_ret2
    rw [hr.out]
    exact ⟨_, rfl, Kd.R_nil _ _ _ _ _, hO5.out.below (pw_below_drewN (Below.refl _ _) _), HM5.out.trans (ModO.drewN _ _ _ _ _)⟩
  have hcf' : ¬ (s.clock : Int) + (n : Int) < (s.frm : Int) := by omega
  have hcond : Aside0 (¬ (s.away = true ∨ s.items = [] ∨ s.clock + n < s.frm)) := ⟨by
    rintro (h | h | h)
    · rw [HAW.out] at h; cases h
    · exact HIT.out h
    · exact hcf h⟩
  clear hcf
  go_quiet (fail)
  have hb6 : Below W5.heap.size W5 (W5.drewN nq) := pw_below_drewN (Below.refl _ _) _
  obtain ⟨W6, hW6⟩ : ∃ W, W = W5.drewN nq := ⟨_, rfl⟩
  rw [← hW6] at hb6 ⊢
  have hgl := blk_lt HC5.out
  have h6 := (hb6.block g hgl).trans HC5.out
  rw [HAW.out] at h6
  have HR6 := Aside0.mk (Kd.R_below HR5.out hb6)
  have HM6 := Aside0.mk (HM5.out.trans (ModO.of_below hb6))
  clear z0 z1 z2 z3 z5 z6 hit' hcf' hW6 hb6
  have z0 : W6.cell? ⟨g, 0, none⟩ = some (.slice A s.items.length c) := by rw [blk_cell h6]; rfl
  have z1 : W6.cell? ⟨g, 1, none⟩ = some (.int .i64 s.size) := by rw [blk_cell h6]; rfl
  have z2 : W6.cell? ⟨g, 2, none⟩ = some (.int .i64 s.batch) := by rw [blk_cell h6]; rfl
  have z3 : W6.cell? ⟨g, 3, none⟩ = some (.bool false) := by rw [blk_cell h6]; rfl
  have f1 := blk_frozen h6 1
  have f2 := blk_frozen h6 2
  have f3 := blk_frozen h6 3
  have hcs : s.items.length ≤ c := (Kd.R_reads' HR5.out).2.1
  by_cases hz : s.size = 0
  · obtain ⟨m, hm⟩ : ∃ m, m = min s.items.length 4 := ⟨_, rfl⟩
    have hr : Aside0 (tickF s n = ((s.batch + 1, s.items.take m), { s with clock := s.clock + n, size := m, batch := s.batch + 1, away := true })) := ⟨by unfold tickF; rw [if_neg hcond.out, if_pos hz, hm]⟩
    have hmi : min (s.items.length : Int) 4 = (m : Int) := by omega
    have hmj : (if (4 : Int) < (s.items.length : Int) then (4 : Int) else (s.items.length : Int)) = (m : Int) := by split <;> omega
    have hz' : ((s.size : Int) == 0) = true := by rw [hz]; rfl
    have hm1 : m ≤ s.items.length := by omega
    clear hm hz
    have h9 : (((W6.setCell ⟨g, 1, none⟩ (.int .i64 (m : Int))).setCell ⟨g, 2, none⟩ (.int .i64 ((s.batch : Int) + 1))).setCell ⟨g, 3, none⟩ (.bool true)).heap[g]? = some (.cells #[.slice A s.items.length c, .int .i64 (m : Int), .int .i64 ((s.batch : Int) + 1), .bool true, .int .i64 s.fails, .int .i64 ((s.clock + n : Nat) : Int), .int .i64 s.frm] 70 (0, 0)) := by rw [heap_set1 (heap_set1 (heap_set1 h6))]; rfl
    have HR9 := Aside0.mk (Kd.R_set (Kd.R_set (Kd.R_set HR6.out h6 (fun q hq => by rw [E9 q hq]; decide) 1 (.int .i64 (m : Int))) (heap_set1 h6) (fun q hq => by rw [E9 q hq]; decide) 2 (.int .i64 ((s.batch : Int) + 1))) (heap_set1 (heap_set1 h6)) (fun q hq => by rw [E9 q hq]; decide) 3 (.bool true))
    have HM9 := Aside0.mk (((HM6.out.trans (ModO.set7 (j := 1) (u := .int .i64 (m : Int)) h6 h2)).trans (ModO.set7 (j := 2) (u := .int .i64 ((s.batch : Int) + 1)) (heap_set1 h6) h2)).trans (ModO.set7 (j := 3) (u := .bool true) (heap_set1 (heap_set1 h6)) h2))
    have H9 := Aside0.mk h9
    clear h6 h9
    go_upto_region 8 with (fail)
    generalize ((W6.setCell ⟨g, 1, none⟩ (.int .i64 (m : Int))).setCell ⟨g, 2, none⟩ (.int .i64 ((s.batch : Int) + 1))).setCell ⟨g, 3, none⟩ (.bool true) = W9 at H9 HR9 HM9 ⊢
    clear z0 z1 z2 z3 f1 f2 f3
    have y0 : W9.cell? ⟨g, 0, none⟩ = some (.slice A s.items.length c) := by rw [blk_cell H9.out]; rfl
    have y1 : W9.cell? ⟨g, 1, none⟩ = some (.int .i64 (m : Int)) := by rw [blk_cell H9.out]; rfl
    have y2 : W9.cell? ⟨g, 2, none⟩ = some (.int .i64 ((s.batch : Int) + 1)) := by rw [blk_cell H9.out]; rfl
    have hml : (m : Int) ≤ (c : Int) := by omega
    have hm0 : (0 : Int) ≤ (m : Int) := by omega
    have htl : (s.items.take m).length = m := by rw [List.length_take]; omega
    have hS : ∀ w' : World, Below W9.heap.size W9 w' → (w'.cell? ⟨g, 0, none⟩ = some (.slice A s.items.length c) ∧ w'.cell? ⟨g, 1, none⟩ = some (.int .i64 (m : Int)) ∧ w'.cell? ⟨g, 2, none⟩ = some (.int .i64 ((s.batch : Int) + 1)) ∧ Below W9.heap.size W9 w') := fun w' hb => ⟨(hb.cell (World.block_lt_of_cell? W9 _ y0)).trans y0, (hb.cell (World.block_lt_of_cell? W9 _ y1)).trans y1, (hb.cell (World.block_lt_of_cell? W9 _ y2)).trans y2, hb⟩
    have HCl : Aside0 (∀ W, Below W9.heap.size W9 W → Calls Try.prog 71 #[.slice A m c] W fun e w' => ∃ v0_ : Value, e = .returned v0_ ∧ Kd.R Kd.string 9 w' W.heap.size (fun _ => True) v0_ (s.items.take m) ∧ Below W.heap.size W w') := ⟨fun W hW => by
      have := clone_walk A c (s.items.take m) W (by have h := Kd.C_take (Kd.C_below (Kd.R_reads' HR9.out).2.2 hW) hm1; exact h) (by rw [htl]; omega) (by rw [htl]; omega)
      rw [htl] at this
      exact this⟩
    have hws : w.heap.size ≤ W9.heap.size := HM9.out.modT.size
    clear htl y0 y1 y2
    go_region_held3 (fun w' => w'.cell? ⟨g, 0, none⟩ = some (.slice A s.items.length c) ∧ w'.cell? ⟨g, 1, none⟩ = some (.int .i64 (m : Int)) ∧ w'.cell? ⟨g, 2, none⟩ = some (.int .i64 ((s.batch : Int) + 1)) ∧ Below W9.heap.size W9 w') (first | assumption | exact hS _ (below_drew (Below.refl _ _))) (first | (go_at_call 71; refine (HCl.out _ (And.right (And.right (And.right (by assumption))))).mono ?_; rintro e w4 ⟨v4, rfl, ho, hb⟩; have hS1 := hS _ (below_step (And.right (And.right (And.right (by assumption)))) hb); have HV4 := Aside0.mk (Kd.R_lower ho (Nat.le_trans hws (below_size (And.right (And.right (And.right (by assumption))))))); clear ho hb))
    all_goals
      have hBW := Aside0.mk hS1.2.2.2
      go_wp2
      go_ret2
      rw [hr.out]
      refine ⟨_, by simp, HV4.out, ?_, HM9.out.trans (ModO.of_below hBW.out)⟩
      exact OutAt.below ⟨A, c, HOB.out, by rw [H9.out]; simp, h2, HR9.out⟩ hBW.out
  · obtain ⟨m, hm⟩ : ∃ m, m = s.size := ⟨_, rfl⟩
    have hr : Aside0 (tickF s n = ((s.batch, s.items.take m), { s with clock := s.clock + n, away := true })) := ⟨by unfold tickF; rw [if_neg hcond.out, if_neg hz, hm]⟩
    have hz' : ((s.size : Int) == 0) = false := beq_false_of_ne (by omega)
    have hm1 : m ≤ s.items.length := by omega
    have h9 : (W6.setCell ⟨g, 3, none⟩ (.bool true)).heap[g]? = some (.cells #[.slice A s.items.length c, .int .i64 s.size, .int .i64 s.batch, .bool true, .int .i64 s.fails, .int .i64 ((s.clock + n : Nat) : Int), .int .i64 s.frm] 70 (0, 0)) := by rw [heap_set1 h6]; rfl
    have HR9 := Aside0.mk (Kd.R_set HR6.out h6 (fun q hq => by rw [E9 q hq]; decide) 3 (.bool true))
    have HM9 := Aside0.mk (HM6.out.trans (ModO.set7 (j := 3) (u := .bool true) h6 h2))
    have H9 := Aside0.mk h9
    rw [← hm] at H9
    have hm' := Aside0.mk hm
    clear h6 h9 hz hm
    go_upto_region 8 with (fail)
    generalize W6.setCell ⟨g, 3, none⟩ (.bool true) = W9 at H9 HR9 HM9 ⊢
    clear z0 z1 z2 z3 f1 f2 f3
    have y0 : W9.cell? ⟨g, 0, none⟩ = some (.slice A s.items.length c) := by rw [blk_cell H9.out]; rfl
    have y1 : W9.cell? ⟨g, 1, none⟩ = some (.int .i64 (m : Int)) := by rw [blk_cell H9.out]; rfl
    have y2 : W9.cell? ⟨g, 2, none⟩ = some (.int .i64 (s.batch : Int)) := by rw [blk_cell H9.out]; rfl
    have hml : (m : Int) ≤ (c : Int) := by omega
    have hm0 : (0 : Int) ≤ (m : Int) := by omega
    have htl : (s.items.take m).length = m := by rw [List.length_take]; omega
    have hS : ∀ w' : World, Below W9.heap.size W9 w' → (w'.cell? ⟨g, 0, none⟩ = some (.slice A s.items.length c) ∧ w'.cell? ⟨g, 1, none⟩ = some (.int .i64 (m : Int)) ∧ w'.cell? ⟨g, 2, none⟩ = some (.int .i64 (s.batch : Int)) ∧ Below W9.heap.size W9 w') := fun w' hb => ⟨(hb.cell (World.block_lt_of_cell? W9 _ y0)).trans y0, (hb.cell (World.block_lt_of_cell? W9 _ y1)).trans y1, (hb.cell (World.block_lt_of_cell? W9 _ y2)).trans y2, hb⟩
    have HCl : Aside0 (∀ W, Below W9.heap.size W9 W → Calls Try.prog 71 #[.slice A m c] W fun e w' => ∃ v0_ : Value, e = .returned v0_ ∧ Kd.R Kd.string 9 w' W.heap.size (fun _ => True) v0_ (s.items.take m) ∧ Below W.heap.size W w') := ⟨fun W hW => by
      have := clone_walk A c (s.items.take m) W (by have h := Kd.C_take (Kd.C_below (Kd.R_reads' HR9.out).2.2 hW) hm1; exact h) (by rw [htl]; omega) (by rw [htl]; omega)
      rw [htl] at this
      exact this⟩
    have hws : w.heap.size ≤ W9.heap.size := HM9.out.modT.size
    clear htl y0 y1 y2
    go_region_held3 (fun w' => w'.cell? ⟨g, 0, none⟩ = some (.slice A s.items.length c) ∧ w'.cell? ⟨g, 1, none⟩ = some (.int .i64 (m : Int)) ∧ w'.cell? ⟨g, 2, none⟩ = some (.int .i64 (s.batch : Int)) ∧ Below W9.heap.size W9 w') (first | assumption | exact hS _ (below_drew (Below.refl _ _))) (first | (go_at_call 71; refine (HCl.out _ (And.right (And.right (And.right (by assumption))))).mono ?_; rintro e w4 ⟨v4, rfl, ho, hb⟩; have hS1 := hS _ (below_step (And.right (And.right (And.right (by assumption)))) hb); have HV4 := Aside0.mk (Kd.R_lower ho (Nat.le_trans hws (below_size (And.right (And.right (And.right (by assumption))))))); clear ho hb))
    all_goals
      have hBW := Aside0.mk hS1.2.2.2
      go_wp2
      go_ret2
      rw [hr.out]
      refine ⟨_, by simp, HV4.out, ?_, HM9.out.trans (ModO.of_below hBW.out)⟩
      exact OutAt.below ⟨A, c, HOB.out, by rw [H9.out, ← hm'.out], h2, HR9.out⟩ hBW.out
end Go.Proofs.Ytjceapbbapofmaa.Q
