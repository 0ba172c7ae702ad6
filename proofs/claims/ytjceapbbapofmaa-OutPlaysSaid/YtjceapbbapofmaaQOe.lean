/- out.Out's End, walked. -/
import Derived.Test.YtjceapbbapofmaaQOt
import Derived.Test.YtjceapbbapofmaaQFa
namespace Go.Proofs.Ytjceapbbapofmaa.Q
open Go.RowKit Go.Proofs.YtjceapbbapofmaaW.PrintWords Go.Proofs.YtjceapbbapofmaaW.PrintLast Go.Proofs.YtjceapbbapofmaaW.PrintMore Go.Proofs.Ytjceapbbapofmaa.Plain
set_option maxRecDepth 100000 in
set_option maxHeartbeats 16000000 in
theorem end_walk (base g : Nat) (ob : Option Nat) (s : OSt) (b : Int) (came : Bool) (w : World) (h : OutAt w base g ob s) (hi : s.items.length ≤ 60) (hs : s.size ≤ s.items.length) (hc : s.clock ≤ 1000000) (hf : s.fails ≤ 1000) :
    Calls Try.prog 61 #[.pointer (some ⟨g, 0, none⟩), .int .i64 b, .bool came] w (OPost base g ob w (.int .i64 (endF s b came).1) (endF s b came).2) := by
  have HA := Aside0.mk h
  obtain ⟨A, c, hob, h1, h2, h3⟩ := h
  have HOB := Aside0.mk hob
  clear hob
  have HR := Aside0.mk h3
  have z2 : w.cell? ⟨g, 2, none⟩ = some (.int .i64 s.batch) := by rw [blk_cell h1]; rfl
  have z3 : w.cell? ⟨g, 3, none⟩ = some (.bool s.away) := by rw [blk_cell h1]; rfl
  have f3 := blk_frozen h1 3
  by_cases haw : s.away = false
  · have hr : Aside0 (endF s b came = (8, s)) := ⟨by unfold endF; rw [if_pos (.inl haw)]⟩
    rw [haw] at z3
    clear haw h1 h3
    go_enter Try.func61, Try.ntmps61
    go_wp2
    go_ret
    rw [hr.out]
    exact ⟨rfl, ⟨ob, HA.out, .inl rfl⟩, ModO.refl _ _ _ _⟩
  have haw' : s.away = true := by cases h : s.away <;> simp_all
  rw [haw'] at z3
  have HAW := Aside0.mk haw'
  clear haw'
  by_cases hbt : b = (s.batch : Int)
  case neg =>
    have hr : Aside0 (endF s b came = (8, s)) := ⟨by unfold endF; rw [if_pos (.inr hbt)]⟩
    have hbt' : (b != (s.batch : Int)) = true := by simpa using hbt
    clear h1 h3 hbt
    go_enter Try.func61, Try.ntmps61
    go_wp2
    go_ret
    rw [hr.out]
    exact ⟨rfl, ⟨ob, HA.out, .inl rfl⟩, ModO.refl _ _ _ _⟩
  have hcond : Aside0 (¬ (s.away = false ∨ b ≠ (s.batch : Int))) := ⟨by
    rintro (h | h)
    · exact haw h
    · exact h hbt⟩
  have hbt' : (b != (s.batch : Int)) = false := by simp [hbt]
  have h4 : (w.setCell ⟨g, 3, none⟩ (.bool false)).heap[g]? = some (.cells #[.slice A s.items.length c, .int .i64 s.size, .int .i64 s.batch, .bool false, .int .i64 s.fails, .int .i64 s.clock, .int .i64 s.frm] 70 (0, 0)) := by rw [heap_set1 h1]; rfl
  have HR4 := Aside0.mk (Kd.R_set h3 h1 (fun q hq => by rw [E9 q hq]; decide) 3 (.bool false))
  have HM4 : Aside0 (ModO g ob base w (w.setCell ⟨g, 3, none⟩ (.bool false))) := ⟨ModO.set7 (j := 3) (u := .bool false) h1 h2⟩
  have H4 := Aside0.mk h4
  clear h1 h3 haw h4 hbt
  cases came with
  | false =>
    have hr : Aside0 (endF s b false = (0, { s with away := false, fails := s.fails + 1, frm := s.clock + waitF (s.fails + 1) })) := ⟨by unfold endF; rw [if_neg hcond.out, if_pos rfl]⟩
    have y4 : (w.setCell ⟨g, 3, none⟩ (.bool false)).cell? ⟨g, 4, none⟩ = some (.int .i64 s.fails) := by rw [blk_cell H4.out]; rfl
    have g4 := blk_frozen H4.out 4
    have H5 := heap_set1 (j := 4) (u := .int .i64 ((s.fails : Int) + 1)) H4.out
    have HM5 := Aside0.mk (HM4.out.trans (ModO.set7 (j := 4) (u := .int .i64 ((s.fails : Int) + 1)) H4.out h2))
    have HR5 := Aside0.mk (Kd.R_set HR4.out H4.out (fun q hq => by rw [E9 q hq]; decide) 4 (.int .i64 ((s.fails : Int) + 1)))
    replace H5 := Aside0.mk H5
    have HW : Aside0 (∀ W, Calls Try.prog 15 #[.int .i64 ((s.fails : Int) + 1)] W fun e w' => e = .returned (.int .i64 ((waitF (s.fails + 1) : Nat) : Int)) ∧ Below W.heap.size W w') := ⟨fun W => by
      obtain ⟨k, hk⟩ := wait_ev (s.fails + 1)
      have := out_Wait.calls k _ _ W hk
      rwa [show ((s.fails + 1 : Nat) : Int) = (s.fails : Int) + 1 by simp] at this⟩
    have hwl := waitF_le (s.fails + 1)
    have hws : IntKind.i64.wrap ((s.clock : Int) + ((waitF (s.fails + 1) : Nat) : Int)) = (s.clock : Int) + ((waitF (s.fails + 1) : Nat) : Int) := IntWalk.i64_in _ (by omega)
    go_enter Try.func61, Try.ntmps61
    go_upto_region 6 with (fail)
    generalize (w.setCell ⟨g, 3, none⟩ (.bool false)).setCell ⟨g, 4, none⟩ (.int .i64 ((s.fails : Int) + 1)) = W4 at H5 HM5 HR5 ⊢
    clear z2 z3 f3 y4 g4
    have y4 : W4.cell? ⟨g, 4, none⟩ = some (.int .i64 ((s.fails : Int) + 1)) := by rw [blk_cell H5.out]; rfl
    have y5 : W4.cell? ⟨g, 5, none⟩ = some (.int .i64 s.clock) := by rw [blk_cell H5.out]; rfl
    refine wp_region_tail 13 (fun j v w => match j with
      | 0 => v = .pointer (some ⟨g, 0, none⟩)
      | 1 => v = .pointer (some ⟨g, 0, none⟩)
      | 2 => v = .pointer (some ⟨g, 0, none⟩)
      | 3 => v = .pointer (some ⟨g, 5, none⟩)
      | 4 => v = .int .i64 s.clock
      | 5 => v = .pointer (some ⟨g, 0, none⟩)
      | 6 => v = .pointer (some ⟨g, 0, none⟩)
      | 7 => v = .pointer (some ⟨g, 4, none⟩)
      | 8 => v = .int .i64 ((s.fails : Int) + 1)
      | 9 => v = .int .i64 ((waitF (s.fails + 1) : Nat) : Int)
      | 10 => v = .int .i64 ((s.clock : Int) + ((waitF (s.fails + 1) : Nat) : Int))
      | 11 => v = .pointer (some ⟨g, 0, none⟩)
      | _ => v = .pointer (some ⟨g, 6, none⟩)) (by kernel_rfl) (by kernel_rfl) ?_ ?_ ?_
    · intro j v w w' h hb
      rcases j with _ | _ | _ | _ | _ | _ | _ | _ | _ | _ | _ | _ | j
      all_goals first | exact h
    · intro j o a w hj ho hF hB hd
      have hw5 := (hB.cell (World.block_lt_of_cell? W4 _ y5)).trans y5
      have hw4 := (hB.cell (World.block_lt_of_cell? W4 _ y4)).trans y4
      obtain rfl | rfl | rfl | rfl | rfl | rfl | rfl | rfl | rfl | rfl | rfl | rfl | rfl : j = 0 ∨ j = 1 ∨ j = 2 ∨ j = 3 ∨ j = 4 ∨ j = 5 ∨ j = 6 ∨ j = 7 ∨ j = 8 ∨ j = 9 ∨ j = 10 ∨ j = 11 ∨ j = 12 := by omega
      case inl =>
        cases ho
        have s0 := hF.get (k := 0) (by decide +kernel)
        change a.tmps.getD 0 undef = .pointer (some ⟨g, 0, none⟩) at s0
        go_simp
        exact Below.refl _ _
      case inr.inl =>
        cases ho
        have s0 := hF.get (k := 0) (by decide +kernel)
        change a.tmps.getD 0 undef = .pointer (some ⟨g, 0, none⟩) at s0
        go_simp
        exact Below.refl _ _
      case inr.inr.inl =>
        cases ho
        have e1 : a.tmps.getD 33 undef = .pointer (some ⟨g, 0, none⟩) := hd ⟨1, .data⟩ (by simp) rfl
        go_simp
        exact Below.refl _ _
      case inr.inr.inr.inl =>
        cases ho
        have e2 : a.tmps.getD 34 undef = .pointer (some ⟨g, 0, none⟩) := hd ⟨2, .data⟩ (by simp) rfl
        go_simp
        exact Below.refl _ _
      case inr.inr.inr.inr.inl =>
        cases ho
        have e3 : a.tmps.getD 35 undef = .pointer (some ⟨g, 5, none⟩) := hd ⟨3, .data⟩ (by simp) rfl
        go_simp
        exact Below.refl _ _
      case inr.inr.inr.inr.inr.inl =>
        cases ho
        have s0 := hF.get (k := 0) (by decide +kernel)
        change a.tmps.getD 0 undef = .pointer (some ⟨g, 0, none⟩) at s0
        go_simp
        exact Below.refl _ _
      case inr.inr.inr.inr.inr.inr.inl =>
        cases ho
        have e5 : a.tmps.getD 37 undef = .pointer (some ⟨g, 0, none⟩) := hd ⟨5, .data⟩ (by simp) rfl
        go_simp
        exact Below.refl _ _
      case inr.inr.inr.inr.inr.inr.inr.inl =>
        cases ho
        have e6 : a.tmps.getD 38 undef = .pointer (some ⟨g, 0, none⟩) := hd ⟨6, .data⟩ (by simp) rfl
        go_simp
        exact Below.refl _ _
      case inr.inr.inr.inr.inr.inr.inr.inr.inl =>
        cases ho
        have e7 : a.tmps.getD 39 undef = .pointer (some ⟨g, 4, none⟩) := hd ⟨7, .data⟩ (by simp) rfl
        go_simp
        exact Below.refl _ _
      case inr.inr.inr.inr.inr.inr.inr.inr.inr.inl =>
        cases ho
        have e8 : a.tmps.getD 40 undef = .int .i64 ((s.fails : Int) + 1) := hd ⟨8, .data⟩ (by simp) rfl
        go_simp
        refine (HW.out _).mono ?_
        rintro e w1 ⟨rfl, hb1⟩
        exact ⟨rfl, hb1⟩
      case inr.inr.inr.inr.inr.inr.inr.inr.inr.inr.inl =>
        cases ho
        have e4 : a.tmps.getD 36 undef = .int .i64 s.clock := hd ⟨4, .data⟩ (by simp) rfl
        have e9 : a.tmps.getD 41 undef = .int .i64 ((waitF (s.fails + 1) : Nat) : Int) := hd ⟨9, .data⟩ (by simp) rfl
        go_simp
        exact Below.refl _ _
      case inr.inr.inr.inr.inr.inr.inr.inr.inr.inr.inr.inl =>
        cases ho
        have e0 : a.tmps.getD 32 undef = .pointer (some ⟨g, 0, none⟩) := hd ⟨0, .data⟩ (by simp) rfl
        go_simp
        exact Below.refl _ _
      case inr.inr.inr.inr.inr.inr.inr.inr.inr.inr.inr.inr =>
        cases ho
        have e11 : a.tmps.getD 43 undef = .pointer (some ⟨g, 0, none⟩) := hd ⟨11, .data⟩ (by simp) rfl
        go_simp
        exact Below.refl _ _
    · intro vs w2 hB hd
      have e12 : vs 12 = .pointer (some ⟨g, 6, none⟩) := hd 12 (by omega)
      have e10 : vs 10 = .int .i64 ((s.clock : Int) + ((waitF (s.fails + 1) : Nat) : Int)) := hd 10 (by omega)
      generalize hL : layF _ 13 _ vs = L
      obtain rfl : L = [.pointer (some ⟨g, 0, none⟩), .int .i64 b, .bool false, undef, undef, undef, .int .i64 0, .pointer (some ⟨g, 0, none⟩), .pointer (some ⟨g, 0, none⟩), .pointer (some ⟨g, 3, none⟩), .bool true, .bool false, .bool false, .int .i64 b, .pointer (some ⟨g, 0, none⟩), .pointer (some ⟨g, 0, none⟩), .pointer (some ⟨g, 2, none⟩), .int .i64 s.batch, .bool false, .bool false, .pointer (some ⟨g, 0, none⟩), .pointer (some ⟨g, 0, none⟩), .pointer (some ⟨g, 3, none⟩), .bool false, .bool true, .pointer (some ⟨g, 0, none⟩), .pointer (some ⟨g, 0, none⟩), .pointer (some ⟨g, 4, none⟩), .int .i64 s.fails, .int .i64 ((s.fails : Int) + 1), .pointer (some ⟨g, 0, none⟩), .pointer (some ⟨g, 4, none⟩), vs 0, vs 1, vs 2, vs 3, vs 4, vs 5, vs 6, vs 7, vs 8, vs 9, vs 10, vs 11, vs 12, undef, undef, undef, undef, undef, undef, undef, undef, undef, undef, undef, undef, undef, undef, undef, undef, undef, undef, undef, undef, undef, undef, undef, undef, undef, undef] := by rw [← hL]; kernel_rfl
      clear hL hd
      rw [e12, e10]
      have h6 := (hB.block g (blk_lt H5.out)).trans H5.out
      have y6 : w2.cell? ⟨g, 6, none⟩ = some (.int .i64 s.frm) := by rw [blk_cell h6]; rfl
      have f6 := blk_frozen h6 6
      have H6 := Aside0.mk h6
      have HB6 := Aside0.mk hB
      clear e12 e10 h6 hB y4 y5
      simp only [List.drop_succ_cons, List.drop_zero]
      go_wp2
      go_ret
      rw [hr.out]
      refine ⟨rfl, ⟨ob, ⟨A, c, HOB.out, ?_, h2, Kd.R_set (Kd.R_below HR5.out HB6.out) H6.out (fun q hq => by rw [E9 q hq]; decide) _ _⟩, .inl rfl⟩, (HM5.out.trans (ModO.of_below HB6.out)).trans (ModO.set7 H6.out h2)⟩
      rw [heap_set1 H6.out]
      simp
  | true =>
    have hr : Aside0 (endF s b true = (0, { s with away := false, items := s.items.drop s.size, size := 0, fails := 0, frm := s.clock })) := ⟨by unfold endF; rw [if_neg hcond.out, if_neg (by simp)]⟩
    have hcs : s.items.length ≤ c := (Kd.R_reads' HR4.out).2.1
    obtain ⟨m, hm⟩ : ∃ m, m = s.size := ⟨_, rfl⟩
    have hm1 : m ≤ s.items.length := by omega
    rw [← hm] at H4 hr
    have HMM := Aside0.mk hm
    go_enter Try.func61, Try.ntmps61
    go_upto_region 8 with (fail)
    generalize w.setCell ⟨g, 3, none⟩ (.bool false) = W4 at H4 HM4 HR4 ⊢
    clear z2 z3 f3 hm
    have y0 : W4.cell? ⟨g, 0, none⟩ = some (.slice A s.items.length c) := by rw [blk_cell H4.out]; rfl
    have y1 : W4.cell? ⟨g, 1, none⟩ = some (.int .i64 (m : Int)) := by rw [blk_cell H4.out]; rfl
    have hml : (m : Int) ≤ (s.items.length : Int) := by omega
    have hm0 : (0 : Int) ≤ (m : Int) := by omega
    have hmc : (m : Int) ≤ (c : Int) := by omega
    have hdl : (s.items.drop m).length = s.items.length - m := List.length_drop
    have HCl : Aside0 (∀ W, Below W4.heap.size W4 W → Calls Try.prog 71 #[.slice (if c = m then A else A.map (fun x => x.add m)) (s.items.length - m) (c - m)] W fun e w' => ∃ v0_ : Value, e = .returned v0_ ∧ Kd.R Kd.string 9 w' W.heap.size (fun _ => True) v0_ (s.items.drop m) ∧ Below W.heap.size W w') := ⟨fun W hW => by
      have h := Kd.C_drop (Kd.C_below (Kd.R_reads' HR4.out).2.2 hW) hm1 hcs
      rw [show Kd.string.sz = 1 from rfl, Nat.mul_one] at h
      have := clone_walk _ (c - m) (s.items.drop m) W h (by rw [hdl]; omega) (by rw [hdl]; omega)
      rwa [hdl] at this⟩
    clear hdl
    refine wp_region_tail 13 (fun j v w => match j with
      | 0 => v = .pointer (some ⟨g, 0, none⟩)
      | 1 => v = .pointer (some ⟨g, 0, none⟩)
      | 2 => v = .pointer (some ⟨g, 0, none⟩)
      | 3 => v = .pointer (some ⟨g, 0, none⟩)
      | 4 => v = .slice A s.items.length c
      | 5 => v = .pointer (some ⟨g, 0, none⟩)
      | 6 => v = .pointer (some ⟨g, 0, none⟩)
      | 7 => v = .pointer (some ⟨g, 1, none⟩)
      | 8 => v = .int .i64 (m : Int)
      | 9 => v = .slice (if c = m then A else A.map (fun x => x.add m)) (s.items.length - m) (c - m)
      | 10 => Kd.string.R 9 w W4.heap.size (fun _ => True) v (s.items.drop m)
      | 11 => v = .pointer (some ⟨g, 0, none⟩)
      | _ => v = .pointer (some ⟨g, 0, none⟩)) (by kernel_rfl) (by kernel_rfl) ?_ ?_ ?_
    · intro j v w w' h hb
      rcases j with _ | _ | _ | _ | _ | _ | _ | _ | _ | _ | _ | _ | j
      all_goals first | exact h | exact Kd.R_below h hb
    · intro j o a w hj ho hF hB hd
      have hw0 := (hB.cell (World.block_lt_of_cell? W4 _ y0)).trans y0
      have hw1 := (hB.cell (World.block_lt_of_cell? W4 _ y1)).trans y1
      obtain rfl | rfl | rfl | rfl | rfl | rfl | rfl | rfl | rfl | rfl | rfl | rfl | rfl : j = 0 ∨ j = 1 ∨ j = 2 ∨ j = 3 ∨ j = 4 ∨ j = 5 ∨ j = 6 ∨ j = 7 ∨ j = 8 ∨ j = 9 ∨ j = 10 ∨ j = 11 ∨ j = 12 := by omega
      case inl =>
        cases ho
        have s0 := hF.get (k := 0) (by decide +kernel)
        change a.tmps.getD 0 undef = .pointer (some ⟨g, 0, none⟩) at s0
        go_simp
        exact Below.refl _ _
      case inr.inl =>
        cases ho
        have s0 := hF.get (k := 0) (by decide +kernel)
        change a.tmps.getD 0 undef = .pointer (some ⟨g, 0, none⟩) at s0
        go_simp
        exact Below.refl _ _
      case inr.inr.inl =>
        cases ho
        have e1 : a.tmps.getD 46 undef = .pointer (some ⟨g, 0, none⟩) := hd ⟨1, .data⟩ (by simp) rfl
        go_simp
        exact Below.refl _ _
      case inr.inr.inr.inl =>
        cases ho
        have e2 : a.tmps.getD 47 undef = .pointer (some ⟨g, 0, none⟩) := hd ⟨2, .data⟩ (by simp) rfl
        go_simp
        exact Below.refl _ _
      case inr.inr.inr.inr.inl =>
        cases ho
        have e3 : a.tmps.getD 48 undef = .pointer (some ⟨g, 0, none⟩) := hd ⟨3, .data⟩ (by simp) rfl
        go_simp
        exact Below.refl _ _
      case inr.inr.inr.inr.inr.inl =>
        cases ho
        have s0 := hF.get (k := 0) (by decide +kernel)
        change a.tmps.getD 0 undef = .pointer (some ⟨g, 0, none⟩) at s0
        go_simp
        exact Below.refl _ _
      case inr.inr.inr.inr.inr.inr.inl =>
        cases ho
        have e5 : a.tmps.getD 50 undef = .pointer (some ⟨g, 0, none⟩) := hd ⟨5, .data⟩ (by simp) rfl
        go_simp
        exact Below.refl _ _
      case inr.inr.inr.inr.inr.inr.inr.inl =>
        cases ho
        have e6 : a.tmps.getD 51 undef = .pointer (some ⟨g, 0, none⟩) := hd ⟨6, .data⟩ (by simp) rfl
        go_simp
        exact Below.refl _ _
      case inr.inr.inr.inr.inr.inr.inr.inr.inl =>
        cases ho
        have e7 : a.tmps.getD 52 undef = .pointer (some ⟨g, 1, none⟩) := hd ⟨7, .data⟩ (by simp) rfl
        go_simp
        exact Below.refl _ _
      case inr.inr.inr.inr.inr.inr.inr.inr.inr.inl =>
        cases ho
        have e4 : a.tmps.getD 49 undef = .slice A s.items.length c := hd ⟨4, .data⟩ (by simp) rfl
        have e8 : a.tmps.getD 53 undef = .int .i64 (m : Int) := hd ⟨8, .data⟩ (by simp) rfl
        go_simp
        exact Below.refl _ _
      case inr.inr.inr.inr.inr.inr.inr.inr.inr.inr.inl =>
        cases ho
        have e9 : a.tmps.getD 54 undef = .slice (if c = m then A else A.map (fun x => x.add m)) (s.items.length - m) (c - m) := hd ⟨9, .data⟩ (by simp) rfl
        go_simp
        refine (HCl.out w hB).mono ?_
        rintro e w1 ⟨v1, rfl, ho1, hb1⟩
        exact ⟨v1, rfl, hb1, Kd.R_lower ho1 hB.size⟩
      case inr.inr.inr.inr.inr.inr.inr.inr.inr.inr.inr.inl =>
        cases ho
        have e0 : a.tmps.getD 45 undef = .pointer (some ⟨g, 0, none⟩) := hd ⟨0, .data⟩ (by simp) rfl
        go_simp
        exact Below.refl _ _
      case inr.inr.inr.inr.inr.inr.inr.inr.inr.inr.inr.inr =>
        cases ho
        have e11 : a.tmps.getD 56 undef = .pointer (some ⟨g, 0, none⟩) := hd ⟨11, .data⟩ (by simp) rfl
        go_simp
        exact Below.refl _ _
    · intro vs w2 hB hd
      have e12 : vs 12 = .pointer (some ⟨g, 0, none⟩) := hd 12 (by omega)
      have e10 : Kd.string.R 9 w2 W4.heap.size (fun _ => True) (vs 10) (s.items.drop m) := hd 10 (by omega)
      obtain ⟨A10, c10, hv10⟩ := Kd.R_slice e10
      generalize hL : layF _ 13 _ vs = L
      obtain rfl : L = [.pointer (some ⟨g, 0, none⟩), .int .i64 b, .bool true, undef, undef, undef, .int .i64 0, .pointer (some ⟨g, 0, none⟩), .pointer (some ⟨g, 0, none⟩), .pointer (some ⟨g, 3, none⟩), .bool true, .bool false, .bool false, .int .i64 b, .pointer (some ⟨g, 0, none⟩), .pointer (some ⟨g, 0, none⟩), .pointer (some ⟨g, 2, none⟩), .int .i64 s.batch, .bool false, .bool false, .pointer (some ⟨g, 0, none⟩), .pointer (some ⟨g, 0, none⟩), .pointer (some ⟨g, 3, none⟩), .bool true, .bool false, undef, undef, undef, undef, undef, undef, undef, undef, undef, undef, undef, undef, undef, undef, undef, undef, undef, undef, undef, undef, vs 0, vs 1, vs 2, vs 3, vs 4, vs 5, vs 6, vs 7, vs 8, vs 9, vs 10, vs 11, vs 12, undef, undef, undef, undef, undef, undef, undef, undef, undef, undef, undef, undef, undef] := by rw [← hL]; kernel_rfl
      clear hL hd
      rw [e12, hv10]
      rw [hv10] at e10
      have h6 := (hB.block g (blk_lt H4.out)).trans H4.out
      have y0' : w2.cell? ⟨g, 0, none⟩ = some (.slice A s.items.length c) := by rw [blk_cell h6]; rfl
      have y1' : w2.cell? ⟨g, 1, none⟩ = some (.int .i64 (m : Int)) := by rw [blk_cell h6]; rfl
      have y4' : w2.cell? ⟨g, 4, none⟩ = some (.int .i64 s.fails) := by rw [blk_cell h6]; rfl
      have y5' : w2.cell? ⟨g, 5, none⟩ = some (.int .i64 s.clock) := by rw [blk_cell h6]; rfl
      have y6' : w2.cell? ⟨g, 6, none⟩ = some (.int .i64 s.frm) := by rw [blk_cell h6]; rfl
      have f0' := blk_frozen h6 0
      have f1' := blk_frozen h6 1
      have f4' := blk_frozen h6 4
      have f6' := blk_frozen h6 6
      have H6 := Aside0.mk h6
      have HB6 := Aside0.mk hB
      have HR10' := Aside0.mk e10
      have HR10 := Aside0.mk (Kd.R_lower e10 (Nat.le_trans (Nat.le_trans h2 (Nat.le_of_lt (blk_lt H4.out))) (Nat.le_refl _)))
      clear e12 e10 h6 hB y0 y1 hv10
      simp only [List.drop_succ_cons, List.drop_zero]
      go_wp2
      go_ret
      rw [hr.out]
      refine ⟨rfl, ⟨_, ⟨A10, c10, rfl, ?_, h2, ?_⟩, .inr (fun k hk => Nat.le_trans HM4.out.modT.size (Kd.R_base HR10'.out k hk))⟩, ((((HM4.out.trans (ModO.of_below HB6.out)).trans (ModO.set7 H6.out h2)).trans (ModO.set7 (heap_set1 H6.out) h2)).trans (ModO.set7 (heap_set1 (heap_set1 H6.out)) h2)).trans (ModO.set7 (heap_set1 (heap_set1 (heap_set1 H6.out))) h2)⟩
      · rw [heap_set1 (heap_set1 (heap_set1 (heap_set1 H6.out)))]
        simp
      · have hE : ∀ q, q ∈ 9 :: Kd.string.E → q ≠ 70 := fun q hq => by rw [E9 q hq]; decide
        have := Kd.R_set (Kd.R_set (Kd.R_set (Kd.R_set HR10.out H6.out hE 0 (.slice A10 (s.items.drop m).length c10)) (heap_set1 H6.out) hE 1 (.int .i64 0)) (heap_set1 (heap_set1 H6.out)) hE 4 (.int .i64 0)) (heap_set1 (heap_set1 (heap_set1 H6.out))) hE 6 (.int .i64 s.clock)
        simpa using this
end Go.Proofs.Ytjceapbbapofmaa.Q
