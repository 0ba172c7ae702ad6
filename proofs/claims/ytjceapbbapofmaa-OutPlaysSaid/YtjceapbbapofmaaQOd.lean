/- out.Out's do, walked. -/
import Derived.Test.YtjceapbbapofmaaQOe
namespace Go.Proofs.Ytjceapbbapofmaa.Q
open Go.RowKit Go.Proofs.YtjceapbbapofmaaW.PrintWords Go.Proofs.YtjceapbbapofmaaW.PrintLast Go.Proofs.YtjceapbbapofmaaW.PrintMore Go.Proofs.Ytjceapbbapofmaa.Plain
theorem ModT.set_new {T : List Nat} {B : Nat} {w w1 : World} (h : ModT T B w w1) (k j : Nat) (hk : w.heap.size ≤ k) (u : Value) : ModT T B w (w1.setCell ⟨k, j, none⟩ u) := by
  refine ⟨h.os, h.tape, h.output, by simpa [World.setCell] using h.size, fun i hi => ?_⟩
  rw [Below.heap_setCell w1 _ _ i (by show i ≠ k; omega)]
  exact h.block i hi
theorem ModO.set_new {g base : Nat} {ob : Option Nat} {w w1 : World} (h : ModO g ob base w w1) (k j : Nat) (hk : w.heap.size ≤ k) (u : Value) : ModO g ob base w (w1.setCell ⟨k, j, none⟩ u) := by
  refine ⟨h.modT.set_new k j hk u, fun i hi => ?_⟩
  rw [Below.heap_setCell w1 _ _ i (by show i ≠ k; omega)]
  exact h.only i hi
theorem Nxt.from {w w1 : World} {ob ob' : Option Nat} (h : Nxt w1 ob ob') (hs : w.heap.size ≤ w1.heap.size) : Nxt w ob ob' := h.imp id (fun h k hk => Nat.le_trans hs (h k hk))
/-- How a turn ends. -/
def DoPost (base g : Nat) (ob : Option Nat) (w : World) (r : S34 × OSt) (e : Ending) (w' : World) : Prop := ∃ rv ob', e = .returned (.agg #[.int .i64 r.1.f0, .int .i64 r.1.f1, rv]) ∧ Kd.string.R 9 w' w.heap.size (fun q => some q ≠ ob') rv r.1.f2 ∧ OutAt w' base g ob' r.2 ∧ Nxt w ob ob' ∧ ModO g ob base w w'
theorem OutAt.lt {w : World} {base g : Nat} {ob : Option Nat} {s : OSt} (h : OutAt w base g ob s) : ∀ k, ob = some k → k < w.heap.size := by
  obtain ⟨A, c, hb, _, _, h3⟩ := h
  intro k hk
  exact Kd.R_lt h3 k (hb.trans hk)
theorem do_end {base g h : Nat} {ob ob' : Option Nat} {w w3 : World} {c b : Int} {rv : Value} {rs : List ByteArray} {s : OSt} {cs : Array Value} (hh : w3.heap[h]? = some (.cells cs 34 (0, 0))) (hw : w.heap.size ≤ h) (hR : Kd.string.R 9 w3 w.heap.size (fun q => some q ≠ ob') rv rs) (hS : OutAt w3 base g ob' s) (hN : Nxt w ob ob') (hm : ModO g ob base w w3) (u v x : Value) :
    DoPost base g ob w (⟨c, b, rs⟩, s) (.returned (.agg #[.int .i64 c, .int .i64 b, rv])) (((w3.setCell ⟨h, 0, none⟩ u).setCell ⟨h, 1, none⟩ v).setCell ⟨h, 2, none⟩ x) := by
  have hh1 := heap_set1 (j := 0) (u := u) hh
  have hh2 := heap_set1 (j := 1) (u := v) hh1
  have m : ModT [34] 0 w3 (((w3.setCell ⟨h, 0, none⟩ u).setCell ⟨h, 1, none⟩ v).setCell ⟨h, 2, none⟩ x) := ((ModT.set_ hh (by simp) (Nat.zero_le _) _).trans (ModT.set_ hh1 (by simp) (Nat.zero_le _) _)).trans (ModT.set_ hh2 (by simp) (Nat.zero_le _) _)
  refine ⟨rv, ob', rfl, m.R hR (fun q hq => by rw [E9 q hq]; simp), ?_, hN, ((hm.set_new h 0 hw u).set_new h 1 hw v).set_new h 2 hw x⟩
  obtain ⟨A, c', hb, h1, h2, h3⟩ := hS
  exact ⟨A, c', hb, m.keep h1 (by simp), h2, m.R h3 (fun q hq => by rw [E9 q hq]; simp)⟩
theorem size34 : (Try.prog.info? 34).map (·.size) = some 3 := by kernel_rfl
theorem do_ret {base g h : Nat} {ob ob' : Option Nat} {w w3 : World} {c b : Int} {rv : Value} {rs : List ByteArray} {s : OSt} {u0 v0 x0 : Value} {a : Act} {r : S34 × OSt} (hr : r = (⟨c, b, rs⟩, s)) (ha : a.tmps.getD 4 undef = .pointer (some ⟨h, 0, none⟩)) (hdf : a.defers = [])
    (hh : w3.heap[h]? = some (.cells #[u0, v0, x0] 34 (0, 0))) (hw : w.heap.size ≤ h) (hR : Kd.string.R 9 w3 w.heap.size (fun q => some q ≠ ob') rv rs) (hS : OutAt w3 base g ob' s) (hN : Nxt w ob ob') (hm : ModO g ob base w w3) :
    bodyPost Try.prog Try.f39 (DoPost base g ob w r) .ret a (((w3.setCell ⟨h, 0, none⟩ (.int .i64 c)).setCell ⟨h, 1, none⟩ (.int .i64 b)).setCell ⟨h, 2, none⟩ rv) := by
  subst hr
  exact bodyPost_ret (results_cell_row (P := Try.prog) rfl a.tmps _ h 34 #[.int .i64 c, .int .i64 b, rv] (0, 0) _ ha (by rw [heap_set1 (heap_set1 (heap_set1 hh))]; rfl) Try.underlying34 rfl size34) hdf (do_end hh hw hR hS hN hm _ _ _)
theorem do_err {base g : Nat} {ob : Option Nat} {w : World} {c : Int} {s : OSt} {cs : Array Value} {a : Act} {r : S34 × OSt} (hr : r = (⟨c, 0, []⟩, s)) (ha : a.tmps.getD 4 undef = .pointer (some ⟨w.heap.size + 1, 0, none⟩)) (hdf : a.defers = []) (hS : OutAt w base g ob s) :
    bodyPost Try.prog Try.f39 (DoPost base g ob w r) .ret a ((w.alloc (.cells cs 72)).alloc (.cells #[.int .i64 c, .int .i64 0, .slice none 0 0] 34)) := by
  subst hr
  have hb2 : ∀ o1 o2, Below w.heap.size w ((w.alloc o1).alloc o2) := fun o1 o2 => below_alloc (below_alloc (Below.refl _ _) _) _
  refine bodyPost_ret (results_cell_row (P := Try.prog) rfl a.tmps _ (w.heap.size + 1) 34 #[.int .i64 c, .int .i64 0, .slice none 0 0] (0, 0) _ ha ?_ Try.underlying34 rfl size34) hdf ⟨_, ob, rfl, Kd.R_nil _ _ _ _ _, hS.below (hb2 _ _), .inl rfl, ModO.of_below (hb2 _ _)⟩
  rw [show w.heap.size + 1 = (w.alloc (.cells cs 72)).heap.size by simp]
  exact blk_new _ _
set_option maxRecDepth 100000 in
set_option maxHeartbeats 16000000 in
theorem do_walk (base g : Nat) (ob : Option Nat) (s : OSt) (t : S72) (k : Nat) (w : World) (hs : OutAt w base g ob s) (hi : OInv s k) (hk : k ≤ 100) (hu : t.f1.size ≤ 140737488351232) :
    Calls Try.prog 39 #[.pointer (some ⟨g, 0, none⟩), .agg #[.int .i64 t.f0, .string t.f1, .int .i64 t.f2]] w (DoPost base g ob w (turnF s t)) := by
  obtain ⟨d, u, n⟩ := t
  simp only at hu ⊢
  obtain ⟨W1, hW1⟩ : ∃ W1, W1 = (w.alloc (.cells #[.int .i64 d, .string u, .int .i64 n] 72)).alloc (.cells #[.int .i64 0, .int .i64 0, .slice none 0 0] 34) := ⟨_, rfl⟩
  have HB1 : Below w.heap.size w W1 := hW1 ▸ below_alloc (below_alloc (Below.refl _ _) _) _
  have HS := Aside0.mk (hs.below HB1)
  have HM1 : Aside0 (ModO g ob base w W1) := ⟨ModO.of_below HB1⟩
  have hhr : Aside0 (W1.heap[w.heap.size + 1]? = some (.cells #[.int .i64 0, .int .i64 0, .slice none 0 0] 34 (0, 0))) := ⟨by rw [hW1, show w.heap.size + 1 = (w.alloc (.cells #[.int .i64 d, .string u, .int .i64 n] 72)).heap.size by simp]; exact blk_new _ _⟩
  have hsz : w.heap.size ≤ w.heap.size + 1 := by omega
  have hws : w.heap.size ≤ W1.heap.size := HB1.size
  have i1 := hi.items
  have i2 := hi.size
  have i3 : s.batch ≤ 1000 := Nat.le_trans hi.batch (by omega)
  have i4 : s.fails ≤ 1000 := Nat.le_trans hi.fails (by omega)
  have i5 : s.clock ≤ 1000000 := Nat.le_trans hi.clock (by omega)
  have HS0 := Aside0.mk hs
  clear hs hi HB1
  by_cases k1 : d = 1
  · subst k1
    obtain ⟨r, hr⟩ : ∃ r, Aside0 (r = pushF s u) := ⟨_, ⟨rfl⟩⟩
    have e1 : Aside0 (turnF s ⟨1, u, n⟩ = (⟨r.1, 0, []⟩, r.2)) := ⟨by unfold turnF; rw [if_pos rfl, hr.out]⟩
    have hcall := push_walk base g ob s u W1 HS.out hu i1
    rw [← hr.out] at hcall
    obtain ⟨c, s'⟩ := r
    have Hcall := Aside0.mk hcall
    clear hcall hr
    simp only at Hcall e1
    subst hW1
    go_enter Try.func39, Try.ntmps39
    go_wp2_with (go_at_call 59; refine Hcall.out.mono ?_; rintro e w3 ⟨rfl, ⟨ob3, hs3, hn3⟩, hm3⟩; have HS3 := Aside0.mk hs3; have HN3 := Aside0.mk (hn3.from hws); have HM3 := Aside0.mk (HM1.out.trans hm3); have HH3 := Aside0.mk (hm3.modT.keep hhr.out (by simp)); have z0 : w3.cell? ⟨w.heap.size + 1, 0, none⟩ = some (.int .i64 0) := (by rw [blk_cell HH3.out]; rfl); have z1 : w3.cell? ⟨w.heap.size + 1, 1, none⟩ = some (.int .i64 0) := (by rw [blk_cell HH3.out]; rfl); have z2 : w3.cell? ⟨w.heap.size + 1, 2, none⟩ = some (.slice none 0 0) := (by rw [blk_cell HH3.out]; rfl); have f0 := blk_frozen HH3.out 0; have f1 := blk_frozen HH3.out 1; have f2 := blk_frozen HH3.out 2; clear hs3 hm3 hn3)
    exact do_ret e1.out rfl rfl HH3.out hsz (Kd.R_nil _ _ _ _ _) HS3.out HN3.out HM3.out
  by_cases k2 : d = 2
  · subst k2
    by_cases hn : n < 1 ∨ 1000 < n
    · have e1 : Aside0 (turnF s ⟨2, u, n⟩ = (⟨2, 0, []⟩, s)) := ⟨by unfold turnF; rw [if_neg (by simp), if_pos rfl, if_pos hn]⟩
      rcases hn with hn | hn
      · subst hW1
        go_enter Try.func39, Try.ntmps39
        go_wp2
        exact do_err e1.out rfl rfl HS0.out
      · have hn' : ¬ n < 1 := by omega
        subst hW1
        go_enter Try.func39, Try.ntmps39
        go_wp2
        exact do_err e1.out rfl rfl HS0.out
    · obtain ⟨m, rfl⟩ : ∃ m : Nat, n = m := ⟨n.toNat, by omega⟩
      obtain ⟨r, hr⟩ : ∃ r, Aside0 (r = tickF s m) := ⟨_, ⟨rfl⟩⟩
      have e1 : Aside0 (turnF s ⟨2, u, (m : Int)⟩ = (⟨0, (r.1.1 : Int), r.1.2⟩, r.2)) := ⟨by unfold turnF; rw [if_neg (by simp), if_pos rfl, if_neg hn, hr.out, Int.toNat_natCast]⟩
      have hn1 : ¬ (m : Int) < 1 := by omega
      have hn2 : ¬ (1000 : Int) < (m : Int) := by omega
      have hcall := tick_walk base g ob s m W1 HS.out (by omega) i1 i2 i3 i5
      rw [← hr.out] at hcall
      obtain ⟨⟨c, rs⟩, s'⟩ := r
      have Hcall := Aside0.mk hcall
      clear hcall hr hn
      simp only at Hcall e1
      subst hW1
      go_enter Try.func39, Try.ntmps39
      go_wp2_with (go_at_call 60; refine Hcall.out.mono ?_; rintro e w3 ⟨v3, rfl, ho3, hs3, hm3⟩; have HN3 : Aside0 (Nxt w ob ob) := ⟨.inl rfl⟩; have HO3 := Aside0.mk (Kd.R_mono (ok' := fun q => some q ≠ ob) (Kd.R_lower (Kd.R_bound ho3) hws) (fun q hq he => by have := HS.out.lt q he.symm; have := hq.2.1; omega)); have HS3 := Aside0.mk hs3; have HM3 := Aside0.mk (HM1.out.trans hm3); have HH3 := Aside0.mk (hm3.modT.keep hhr.out (by simp)); have z0 : w3.cell? ⟨w.heap.size + 1, 0, none⟩ = some (.int .i64 0) := (by rw [blk_cell HH3.out]; rfl); have z1 : w3.cell? ⟨w.heap.size + 1, 1, none⟩ = some (.int .i64 0) := (by rw [blk_cell HH3.out]; rfl); have z2 : w3.cell? ⟨w.heap.size + 1, 2, none⟩ = some (.slice none 0 0) := (by rw [blk_cell HH3.out]; rfl); have f0 := blk_frozen HH3.out 0; have f1 := blk_frozen HH3.out 1; have f2 := blk_frozen HH3.out 2; obtain ⟨A3, c3, rfl⟩ := Kd.R_slice ho3; clear hs3 hm3 ho3)
      exact do_ret e1.out rfl rfl HH3.out hsz HO3.out HS3.out HN3.out HM3.out
  by_cases k3 : d = 3 ∨ d = 4
  · rcases k3 with rfl | rfl
    · obtain ⟨r, hr⟩ : ∃ r, Aside0 (r = endF s n true) := ⟨_, ⟨rfl⟩⟩
      have e1 : Aside0 (turnF s ⟨3, u, n⟩ = (⟨r.1, 0, []⟩, r.2)) := ⟨by unfold turnF; rw [if_neg (by simp), if_neg (by simp), if_pos (.inl rfl), hr.out]; rfl⟩
      have hcall := end_walk base g ob s n true W1 HS.out i1 i2 i5 i4
      rw [← hr.out] at hcall
      obtain ⟨c, s'⟩ := r
      have Hcall := Aside0.mk hcall
      clear hcall hr
      simp only at Hcall e1
      subst hW1
      go_enter Try.func39, Try.ntmps39
      go_wp2_with (go_at_call 61; refine Hcall.out.mono ?_; rintro e w3 ⟨rfl, ⟨ob3, hs3, hn3⟩, hm3⟩; have HS3 := Aside0.mk hs3; have HN3 := Aside0.mk (hn3.from hws); have HM3 := Aside0.mk (HM1.out.trans hm3); have HH3 := Aside0.mk (hm3.modT.keep hhr.out (by simp)); have z0 : w3.cell? ⟨w.heap.size + 1, 0, none⟩ = some (.int .i64 0) := (by rw [blk_cell HH3.out]; rfl); have z1 : w3.cell? ⟨w.heap.size + 1, 1, none⟩ = some (.int .i64 0) := (by rw [blk_cell HH3.out]; rfl); have z2 : w3.cell? ⟨w.heap.size + 1, 2, none⟩ = some (.slice none 0 0) := (by rw [blk_cell HH3.out]; rfl); have f0 := blk_frozen HH3.out 0; have f1 := blk_frozen HH3.out 1; have f2 := blk_frozen HH3.out 2; clear hs3 hm3 hn3)
      exact do_ret e1.out rfl rfl HH3.out hsz (Kd.R_nil _ _ _ _ _) HS3.out HN3.out HM3.out
    · obtain ⟨r, hr⟩ : ∃ r, Aside0 (r = endF s n false) := ⟨_, ⟨rfl⟩⟩
      have e1 : Aside0 (turnF s ⟨4, u, n⟩ = (⟨r.1, 0, []⟩, r.2)) := ⟨by unfold turnF; rw [if_neg (by simp), if_neg (by simp), if_pos (.inr rfl), hr.out]; rfl⟩
      have hcall := end_walk base g ob s n false W1 HS.out i1 i2 i5 i4
      rw [← hr.out] at hcall
      obtain ⟨c, s'⟩ := r
      have Hcall := Aside0.mk hcall
      clear hcall hr
      simp only at Hcall e1
      subst hW1
      go_enter Try.func39, Try.ntmps39
      go_wp2_with (go_at_call 61; refine Hcall.out.mono ?_; rintro e w3 ⟨rfl, ⟨ob3, hs3, hn3⟩, hm3⟩; have HS3 := Aside0.mk hs3; have HN3 := Aside0.mk (hn3.from hws); have HM3 := Aside0.mk (HM1.out.trans hm3); have HH3 := Aside0.mk (hm3.modT.keep hhr.out (by simp)); have z0 : w3.cell? ⟨w.heap.size + 1, 0, none⟩ = some (.int .i64 0) := (by rw [blk_cell HH3.out]; rfl); have z1 : w3.cell? ⟨w.heap.size + 1, 1, none⟩ = some (.int .i64 0) := (by rw [blk_cell HH3.out]; rfl); have z2 : w3.cell? ⟨w.heap.size + 1, 2, none⟩ = some (.slice none 0 0) := (by rw [blk_cell HH3.out]; rfl); have f0 := blk_frozen HH3.out 0; have f1 := blk_frozen HH3.out 1; have f2 := blk_frozen HH3.out 2; clear hs3 hm3 hn3)
      exact do_ret e1.out rfl rfl HH3.out hsz (Kd.R_nil _ _ _ _ _) HS3.out HN3.out HM3.out
  have e1 : Aside0 (turnF s ⟨d, u, n⟩ = (⟨3, 0, []⟩, s)) := ⟨by unfold turnF; rw [if_neg k1, if_neg k2, if_neg k3]⟩
  have k4 : ¬ d = 3 := fun h => k3 (.inl h)
  have k5 : ¬ d = 4 := fun h => k3 (.inr h)
  clear k3
  subst hW1
  go_enter Try.func39, Try.ntmps39
  go_wp2
  exact do_err e1.out rfl rfl HS0.out
end Go.Proofs.Ytjceapbbapofmaa.Q
