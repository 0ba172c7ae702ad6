/- bagnallref.OutPlayed, walked to the same plain function as out.Play. -/
import Derived.Test.YtjceapbbapofmaaQOp
namespace Go.Proofs.Ytjceapbbapofmaa.Q
open Go.RowKit Go.Proofs.YtjceapbbapofmaaW.PrintWords Go.Proofs.YtjceapbbapofmaaW.PrintLast Go.Proofs.YtjceapbbapofmaaW.PrintMore Go.Proofs.Ytjceapbbapofmaa.Plain
/-- How the reference's variables stand to what is to go. -/
structure RelO (s : OSt) (ever : List ByteArray) (came un wait : Nat) : Prop where
  hcame : came ≤ ever.length
  items : ever.drop came = s.items
  hun : un ≤ ever.length
  size0 : un ≤ came → s.size = 0
  size1 : came < un → s.size = un - came
  away : s.away = true → came < un
  hwait : wait = s.frm ∨ (s.frm ≤ s.clock ∧ wait ≤ s.clock)
theorem relO_zero : RelO o0 [] 0 0 0 := ⟨by simp, by simp [o0], by simp, by simp [o0], by simp [o0], by simp [o0], by simp [o0]⟩
theorem RelO.len {s : OSt} {ever : List ByteArray} {came un wait : Nat} (h : RelO s ever came un wait) : s.items.length = ever.length - came := by rw [← h.items, List.length_drop]
theorem RelO.push {s : OSt} {ever : List ByteArray} {came un wait : Nat} (h : RelO s ever came un wait) (u : ByteArray) : RelO { s with items := s.items ++ [u] } (ever ++ [u]) came un wait := by
  refine ⟨by have := h.hcame; rw [List.length_append]; omega, ?_, by have := h.hun; rw [List.length_append]; omega, h.size0, h.size1, h.away, h.hwait⟩
  rw [List.drop_append_of_le_length h.hcame, h.items]
theorem RelO.clock {s : OSt} {ever : List ByteArray} {came un wait : Nat} (h : RelO s ever came un wait) (n : Nat) : RelO { s with clock := s.clock + n } ever came un wait :=
  ⟨h.hcame, h.items, h.hun, h.size0, h.size1, h.away, h.hwait.imp id (fun h => ⟨by simp only; omega, by simp only; omega⟩)⟩
theorem RelO.empty {s : OSt} {ever : List ByteArray} {came un wait : Nat} (h : RelO s ever came un wait) : s.items = [] ↔ came = ever.length := by
  have h1 := h.len
  have h2 := h.hcame
  constructor
  · intro e; rw [e] at h1; simp at h1; omega
  · intro e; exact List.eq_nil_of_length_eq_zero (by omega)
theorem RelO.late {s : OSt} {ever : List ByteArray} {came un wait : Nat} (h : RelO s ever came un wait) (n : Nat) : s.clock + n < s.frm ↔ s.clock + n < wait := by
  rcases h.hwait with h | ⟨h1, h2⟩
  · rw [h]
  · constructor <;> intro h3 <;> omega
/-- Behind the switch of a turn. -/
def OCut (w : World) (b : Nat) (v12 : Value) (out : List S34) (i : Nat) (r : S34 × OSt) (v4 v5 v6 v7 v8 v9 v10 v11 : Value) (wc : World) : Prop :=
  ∃ (ever : List ByteArray) (came un wait : Nat) (v2 : Value), v5 = .int .i64 came ∧ v6 = .int .i64 r.2.batch ∧ v7 = .int .i64 un ∧ v8 = .bool r.2.away ∧ v9 = .int .i64 r.2.fails ∧ v10 = .int .i64 r.2.clock ∧ v11 = .int .i64 wait ∧
    RelO r.2 ever came un wait ∧ ever.length ≤ i + 1 ∧ wait ≤ 1000 * (i + 1) + 16 ∧ wc.heap[b]? = some (.cells #[.int .i64 r.1.f0, .int .i64 r.1.f1, v2] 34 (0, 0)) ∧
    Kd.string.R 9 wc w.heap.size (fun q => some q ≠ v4.ownBlock) v2 r.1.f2 ∧ Kd.string.R 9 wc w.heap.size (fun _ => True) v4 ever ∧ k34.R 34 wc w.heap.size (fun q => some q ≠ v4.ownBlock) v12 out ∧ Below w.heap.size w wc
/-- What stands ahead of the switch. -/
structure OPre (w W : World) (b : Nat) (v4 v12 : Value) (out : List S34) (ever : List ByteArray) : Prop where
  cells : W.heap[b]? = some (.cells #[.int .i64 0, .int .i64 0, .slice none 0 0] 34 (0, 0))
  lo : w.heap.size ≤ b
  ever : Kd.string.R 9 W w.heap.size (fun _ => True) v4 ever
  out : k34.R 34 W w.heap.size (fun q => q ≠ b ∧ some q ≠ v4.ownBlock) v12 out
  below : Below w.heap.size w W
theorem OPre.code {w W : World} {b : Nat} {v4 v12 : Value} {out : List S34} {ever : List ByteArray} (h : OPre w W b v4 v12 out ever) {s : OSt} {came un wait i : Nat} (hr : RelO s ever came un wait) (he : ever.length ≤ i + 1) (hw : wait ≤ 1000 * (i + 1) + 16) (c : Int) {r : S34 × OSt} (e : r = (⟨c, 0, []⟩, s)) :
    OCut w b v12 out i r v4 (.int .i64 came) (.int .i64 s.batch) (.int .i64 un) (.bool s.away) (.int .i64 s.fails) (.int .i64 s.clock) (.int .i64 wait) (W.setCell ⟨b, 0, none⟩ (.int .i64 c)) := by
  subst e
  refine ⟨ever, came, un, wait, .slice none 0 0, rfl, rfl, rfl, rfl, rfl, rfl, rfl, hr, he, hw, by rw [heap_set1 h.cells]; rfl, Kd.R_nil _ _ _ _ _, Kd.R_set h.ever h.cells (fun q hq => by rw [E9 q hq]; decide) _ _, ?_, below_set h.below h.lo⟩
  exact Kd.R_mono (Kd.R_far h.out (p := ⟨b, 0, none⟩) (fun k hk => hk.1) _) (fun k hk => hk.2)
theorem OPre.same {w W : World} {b : Nat} {v4 v12 : Value} {out : List S34} {ever : List ByteArray} (h : OPre w W b v4 v12 out ever) {s : OSt} {came un wait i : Nat} (hr : RelO s ever came un wait) (he : ever.length ≤ i + 1) (hw : wait ≤ 1000 * (i + 1) + 16) {r : S34 × OSt} (e : r = (⟨0, 0, []⟩, s)) :
    OCut w b v12 out i r v4 (.int .i64 came) (.int .i64 s.batch) (.int .i64 un) (.bool s.away) (.int .i64 s.fails) (.int .i64 s.clock) (.int .i64 wait) W := by
  subst e
  exact ⟨ever, came, un, wait, .slice none 0 0, rfl, rfl, rfl, rfl, rfl, rfl, rfl, hr, he, hw, h.cells, Kd.R_nil _ _ _ _ _, h.ever, Kd.R_mono h.out (fun k hk => hk.2), h.below⟩
theorem OPre.move {w W W' : World} {b : Nat} {v4 v12 : Value} {out : List S34} {ever : List ByteArray} (h : OPre w W b v4 v12 out ever) (hb : Below W.heap.size W W') : OPre w W' b v4 v12 out ever :=
  ⟨(hb.block b (blk_lt h.cells)).trans h.cells, h.lo, Kd.R_below h.ever hb, Kd.R_below h.out hb, below_step h.below hb⟩
theorem R_apart_types {α β : Type} {d : Kd α} {d' : Kd β} {e e' : Nat} {w : World} {base b' : Nat} {ok ok' : Nat → Prop} {v u : Value} {xs : List α} {ys : List β} (h : d.R e w base ok v xs) (h' : d'.R e' w b' ok' u ys) (ht : ∀ q, q ∈ e :: d.E → q ≠ e') : d.R e w base (fun k => ok k ∧ some k ≠ u.ownBlock) v xs := by
  cases hu : u.ownBlock with
  | none => exact Kd.R_mono h (fun k hk => ⟨hk, by simp⟩)
  | some g =>
    obtain ⟨c, hc⟩ := Kd.R_typed h' g hu
    exact Kd.R_mono (Kd.R_types h hc ht) (fun k hk => ⟨hk.1, fun he => hk.2 (Option.some.inj he)⟩)
theorem tick_cut {w w3 : World} {b : Nat} {v4 v12 v3 x2 : Value} {out : List S34} {ever items : List ByteArray} {bt : Nat} (hc : w3.heap[b]? = some (.cells #[.int .i64 0, .int .i64 (bt : Int), x2] 34 (0, 0))) (lo : w.heap.size ≤ b) (he : Kd.string.R 9 w3 w.heap.size (fun _ => True) v4 ever) (ho : k34.R 34 w3 w.heap.size (fun q => q ≠ b ∧ some q ≠ v4.ownBlock) v12 out) (hb : Below w.heap.size w w3)
    (h3 : Kd.string.R 9 w3 w.heap.size (fun q => some q ≠ v4.ownBlock) v3 items) {s : OSt} {came un wait i : Nat} (hr : RelO s ever came un wait) (hl : ever.length ≤ i + 1) (hw : wait ≤ 1000 * (i + 1) + 16) {r : S34 × OSt} (e : r = (⟨0, (bt : Int), items⟩, s)) :
    OCut w b v12 out i r v4 (.int .i64 came) (.int .i64 s.batch) (.int .i64 un) (.bool s.away) (.int .i64 s.fails) (.int .i64 s.clock) (.int .i64 wait) (w3.setCell ⟨b, 2, none⟩ v3) := by
  subst e
  exact ⟨ever, came, un, wait, v3, rfl, rfl, rfl, rfl, rfl, rfl, rfl, hr, hl, hw, by rw [heap_set1 hc]; rfl, Kd.R_set h3 hc (fun q hq => by rw [E9 q hq]; decide) _ _, Kd.R_set he hc (fun q hq => by rw [E9 q hq]; decide) _ _, Kd.R_mono (Kd.R_far ho (p := ⟨b, 2, none⟩) (fun k hk => hk.1) _) (fun k hk => hk.2), below_set hb lo⟩
set_option maxRecDepth 100000 in
set_option maxHeartbeats 16000000 in
theorem ref_OutPlayed (A : Option Addr) (c : Nat) (l : List S72) (w : World) (hr : Kd.C k72 w A l.length l) (hc : l.length ≤ c) (hk : ∀ a ∈ l, a.f1.size ≤ 140737488351232) :
    Calls Try.prog 18 #[.slice A l.length c] w (OPlay w (oplayF l)) := by
  unfold oplayF
  by_cases hl : 100 < l.length
  · rw [if_pos hl]
    clear hr hk
    go_enter Try.func18, Try.ntmps18
    go_wp2
    go_ret2
    exact ⟨_, rfl, Kd.R_nil _ _ _ _ _, Below.refl _ _⟩
  rw [if_neg hl]
  have HR := Aside0.mk hr
  have HC := Aside0.mk hc
  have HK := Aside0.mk hk
  clear hr hc hk
  go_enter Try.func18, Try.ntmps18
  go_wp2
  go_loopw [4, 5, 6, 7, 8, 9, 10, 11, 12, 21] (fun v4 v5 v6 v7 v8 v9 v10 v11 v12 v21 wr => ∃ (i : Nat) (out : List S34) (s : OSt) (ever : List ByteArray) (came un wait : Nat), v21 = .int .i64 i ∧ v5 = .int .i64 came ∧ v6 = .int .i64 s.batch ∧ v7 = .int .i64 un ∧ v8 = .bool s.away ∧ v9 = .int .i64 s.fails ∧ v10 = .int .i64 s.clock ∧ v11 = .int .i64 wait ∧ Aside0 (i ≤ l.length) ∧ Aside0 (out ++ turnsF (l.drop i) s = turnsF l o0) ∧ Aside0 (out.length ≤ i) ∧ Aside0 (OInv s i) ∧ Aside0 (RelO s ever came un wait) ∧ Aside0 (ever.length ≤ i ∧ wait ≤ 1000 * i + 16) ∧ Aside0 (Kd.string.R 9 wr w.heap.size (fun _ => True) v4 ever) ∧ Aside0 (k34.R 34 wr w.heap.size (fun q => some q ≠ v4.ownBlock) v12 out) ∧ Aside0 (Below w.heap.size w wr)) (fun _ _ _ _ _ _ _ _ _ v21 _ => l.length - (intOf v21).toNat)
  case atStart => exact ⟨0, [], o0, [], 0, 0, 0, rfl, rfl, rfl, rfl, rfl, rfl, rfl, rfl, ⟨Nat.zero_le _⟩, ⟨rfl⟩, ⟨Nat.le_refl _⟩, ⟨o0_inv⟩, ⟨relO_zero⟩, ⟨by simp⟩, ⟨Kd.R_nil _ _ _ _ _⟩, ⟨Kd.R_nil _ _ _ _ _⟩, ⟨Below.refl _ _⟩⟩
  case round =>
    obtain ⟨i, out, s, ever, came, un, wait, rfl, rfl, rfl, rfl, rfl, rfl, rfl, rfl, hi, hs, hol, HI, HRel, HE, HV, HO, HB⟩ := hrel
    have hil := hi.out
    by_cases hlt : i < l.length
    · have hst := Aside0.mk (turns_next hs.out hlt)
      obtain ⟨ad, rfl, y0, y1, y2⟩ := at_T72 HR.out (i : Int) (by omega) (by omega)
      have x0 := (HB.out.cell (World.block_lt_of_cell? w _ y0)).trans y0
      have x1 := (HB.out.cell (World.block_lt_of_cell? w _ y1)).trans y1
      have x2 := (HB.out.cell (World.block_lt_of_cell? w _ y2)).trans y2
      clear y0 y1 y2
      rw [Int.toNat_natCast] at x0 x1 x2
      obtain ⟨m, hm⟩ : ∃ m, m = rd_T72 l (i : Int) := ⟨_, rfl⟩
      rw [← hm] at hst x0 x1 x2
      have hmb : m.f1.size ≤ 140737488351232 := HK.out _ (by
        rw [hm]
        unfold rd_T72
        rw [Int.toNat_natCast, List.getD_eq_getElem?_getD, List.getElem?_eq_getElem hlt]
        exact List.getElem_mem _)
      have hinv : Aside0 (OInv (turnF s m).2 (i + 1)) := ⟨turnF_inv HI.out m⟩
      obtain ⟨A4, c4, rfl⟩ := Kd.R_slice HV.out
      clear hm
      go_upto_block 2 with (fail)
      obtain ⟨d, u, n⟩ := m
      simp only at hmb ⊢
      clear x0 x1 x2
      have hpre : OPre w ((wr.alloc (.cells #[.int .i64 d, .string u, .int .i64 n] 72)).alloc (.cells #[.int .i64 0, .int .i64 0, .slice none 0 0] 34)) (wr.heap.size + 1) (.slice A4 ever.length c4) u12 out ever := by
        have hb2 : Below wr.heap.size wr ((wr.alloc (.cells #[.int .i64 d, .string u, .int .i64 n] 72)).alloc (.cells #[.int .i64 0, .int .i64 0, .slice none 0 0] 34)) := below_alloc (below_alloc (Below.refl _ _) _) _
        have h := HB.out.size
        refine ⟨?_, by omega, Kd.R_below HV.out hb2, Kd.R_mono (Kd.R_below (Kd.R_bound HO.out) hb2) (fun q hq => ⟨by have := hq.2.2.1; omega, hq.1⟩), below_step HB.out hb2⟩
        rw [show wr.heap.size + 1 = (wr.alloc (.cells #[.int .i64 d, .string u, .int .i64 n] 72)).heap.size by simp]
        exact blk_new _ _
      have h14 : ((wr.alloc (.cells #[.int .i64 d, .string u, .int .i64 n] 72)).alloc (.cells #[.int .i64 0, .int .i64 0, .slice none 0 0] 34)).heap[wr.heap.size]? = some (.cells #[.int .i64 d, .string u, .int .i64 n] 72 (0, 0)) := (below_alloc (Below.refl _ _) _).block _ (by simp) |>.trans (blk_new wr _)
      have HW14 := Aside0.mk h14
      have he1 : ever.length ≤ i + 1 := by have := HE.out.1; omega
      have hw1 : wait ≤ 1000 * (i + 1) + 16 := by have := HE.out.2; omega
      generalize (wr.alloc (.cells #[.int .i64 d, .string u, .int .i64 n] 72)).alloc (.cells #[.int .i64 0, .int .i64 0, .slice none 0 0] 34) = W at hpre h14 ⊢
      have hbl : wr.heap.size + 1 < W.heap.size := blk_lt hpre.cells
      have hbl0 : wr.heap.size < W.heap.size := by omega
      generalize wr.heap.size + 1 = b15 at hpre hbl ⊢
      generalize wr.heap.size = b14 at h14 hbl0 ⊢
      have HP := Aside0.mk hpre
      have H14 := Aside0.mk h14
      clear hpre h14 HW14
      go_cut [4, 5, 6, 7, 8, 9, 10, 11] (fun v4 v5 v6 v7 v8 v9 v10 v11 wc => Aside0 (OCut w b15 u12 out i (turnF s ⟨d, u, n⟩) v4 v5 v6 v7 v8 v9 v10 v11 wc))
      case first =>
        have hpre := HP.out
        have h14 := H14.out
        clear hst hinv HP H14
        have x0 : W.cell? ⟨b14, 0, none⟩ = some (.int .i64 d) := by rw [blk_cell h14]; rfl
        have x1 : W.cell? ⟨b14, 1, none⟩ = some (.string u) := by rw [blk_cell h14]; rfl
        have x2 : W.cell? ⟨b14, 2, none⟩ = some (.int .i64 n) := by rw [blk_cell h14]; rfl
        have y0 : W.cell? ⟨b15, 0, none⟩ = some (.int .i64 0) := by rw [blk_cell hpre.cells]; rfl
        have y1 : W.cell? ⟨b15, 1, none⟩ = some (.int .i64 0) := by rw [blk_cell hpre.cells]; rfl
        have y2 : W.cell? ⟨b15, 2, none⟩ = some (.slice none 0 0) := by rw [blk_cell hpre.cells]; rfl
        have f0 := blk_frozen hpre.cells 0
        have f1 := blk_frozen hpre.cells 1
        have f2 := blk_frozen hpre.cells 2
        have HP := Aside0.mk hpre
        have hcm := HRel.out.hcame
        have hun := HRel.out.hun
        have hel := HE.out.1
        have hwl := HE.out.2
        have hcl := HI.out.clock
        have hbt := HI.out.batch
        have hfl := HI.out.fails
        have hil2 := HRel.out.len
        have hit60 := HI.out.items
        clear hpre h14
        by_cases k1 : d = 1
        · subst k1
          by_cases hu1 : u.size < 1
          · have e : turnF s ⟨1, u, n⟩ = (⟨1, 0, []⟩, s) := by unfold turnF pushF; rw [if_pos rfl, if_pos (.inl hu1)]
            have hu1' : (u.size : Int) < 1 := by omega
            go_wp2
            go_meet
            case rel => exact ⟨HP.out.code HRel.out he1 hw1 1 e⟩
          have hu1' : ¬ (u.size : Int) < 1 := by omega
          by_cases hu2 : 20 < u.size
          · have e : turnF s ⟨1, u, n⟩ = (⟨1, 0, []⟩, s) := by unfold turnF pushF; rw [if_pos rfl, if_pos (.inr hu2)]
            have hu2' : (20 : Int) < (u.size : Int) := by omega
            go_wp2
            go_meet
            case rel => exact ⟨HP.out.code HRel.out he1 hw1 1 e⟩
          have hu12 : ¬ (u.size < 1 ∨ 20 < u.size) := by omega
          have hu2' : ¬ (20 : Int) < (u.size : Int) := by omega
          by_cases hfu : s.items.length = 60
          · have e : turnF s ⟨1, u, n⟩ = (⟨10, 0, []⟩, s) := by unfold turnF pushF; rw [if_pos rfl, if_neg hu12, if_pos hfu]
            have hfu' : (60 : Int) ≤ (ever.length : Int) - (came : Int) := by omega
            clear hil2 hfu
            go_wp2
            go_meet
            case rel => exact ⟨HP.out.code HRel.out he1 hw1 10 e⟩
          have e : Aside0 (turnF s ⟨1, u, n⟩ = (⟨0, 0, []⟩, { s with items := s.items ++ [u] })) := ⟨by unfold turnF pushF; rw [if_pos rfl, if_neg hu12, if_neg hfu]⟩
          have hfu' : ¬ (60 : Int) ≤ (ever.length : Int) - (came : Int) := by omega
          clear hil2 hfu hu12
          go_wp2_with ((with_reducible refine gate_builtin (b := .append) (xs := #[.tmp 64, .tmp 67]) rfl ?_); at_builtin; refine Kd.R_append Kd.string (w0 := w) w.heap.size rfl (.tmp 64) (.tmp 67) 32 9 (.string ⟨#[]⟩) 16 rfl Try.underlying32 info9 rfl (by decide) (by omega) (.slice A4 ever.length c4) ever u [.string u] (fun _ => True) (fun _ => False) rfl rfl rfl (fun _ hk => hk.elim) (fun _ _ => trivial) HP.out.ever HP.out.below (below_size HP.out.below) (by omega) ?_; intro v5 w5 ho hb hg hat; obtain ⟨A5, c5, rfl⟩ := Kd.R_slice ho; have hx := Kd.R_after (ok := fun q => q ≠ b15) HP.out.out hg hat; rw [List.length_append, List.length_singleton] at ho hx; have HO5 := Aside0.mk ho; have HB5 := Aside0.mk hb; have HX5 := Aside0.mk hx; have H5c := Aside0.mk ((ModT.grown (T := [9]) hg HP.out.ever (by simp) (Nat.le_refl _)).keep HP.out.cells (by simp)); clear ho hb hg hat hx)
          go_meet
          case rel => exact ⟨by rw [e.out]; exact ⟨ever ++ [u], came, un, wait, .slice none 0 0, rfl, rfl, rfl, rfl, rfl, rfl, rfl, HRel.out.push u, by rw [List.length_append, List.length_singleton]; omega, hw1, H5c.out, Kd.R_nil _ _ _ _ _, HO5.out, Kd.R_mono HX5.out (fun q hq => hq.2), HB5.out⟩⟩
        have n1 : ¬ d = 1 := k1
        by_cases k2 : d = 2
        · subst k2
          by_cases hn1 : n < 1
          · have e : turnF s ⟨2, u, n⟩ = (⟨2, 0, []⟩, s) := by unfold turnF; rw [if_neg (by simp), if_pos rfl, if_pos (.inl hn1)]
            go_wp2
            go_meet
            case rel => exact ⟨HP.out.code HRel.out he1 hw1 2 e⟩
          by_cases hn2 : 1000 < n
          · have e : turnF s ⟨2, u, n⟩ = (⟨2, 0, []⟩, s) := by unfold turnF; rw [if_neg (by simp), if_pos rfl, if_pos (.inr hn2)]
            go_wp2
            go_meet
            case rel => exact ⟨HP.out.code HRel.out he1 hw1 2 e⟩
          obtain ⟨m, rfl⟩ : ∃ m : Nat, n = m := ⟨n.toNat, by omega⟩
          have hn12 : ¬ ((m : Int) < 1 ∨ 1000 < (m : Int)) := by omega
          have e0 : turnF s ⟨2, u, (m : Int)⟩ = (⟨0, ((tickF s m).1.1 : Int), (tickF s m).1.2⟩, (tickF s m).2) := by unfold turnF; rw [if_neg (by simp), if_pos rfl, if_neg hn12, Int.toNat_natCast]
          clear hn12
          have hck : ((s.clock + m : Nat) : Int) = (s.clock : Int) + (m : Int) := by simp
          have hquiet : ∀ (h : s.away = true ∨ s.items = [] ∨ s.clock + m < s.frm), Aside0 (OCut w b15 u12 out i (turnF s ⟨2, u, (m : Int)⟩) (.slice A4 ever.length c4) (.int .i64 came) (.int .i64 s.batch) (.int .i64 un) (.bool s.away) (.int .i64 s.fails) (.int .i64 ((s.clock : Int) + (m : Int))) (.int .i64 wait) W) := fun h => ⟨by
            have e : turnF s ⟨2, u, (m : Int)⟩ = (⟨0, 0, []⟩, { s with clock := s.clock + m }) := by rw [e0]; unfold tickF; rw [if_pos h]; rfl
            have := HP.out.same (HRel.out.clock m) he1 hw1 e
            rwa [hck] at this⟩
          by_cases haw : s.away = true
          · have hq := hquiet (.inl haw)
            rw [haw] at hq ⊢
            clear hquiet hck
            go_wp2
            go_meet
            case rel => exact hq
          have haw' : s.away = false := Bool.eq_false_iff.2 haw
          by_cases hce : came = ever.length
          · have hq := hquiet (.inr (.inl (HRel.out.empty.2 hce)))
            have hce' : ((came : Int) == (ever.length : Int)) = true := by rw [hce]; simp
            rw [haw'] at hq ⊢
            clear hquiet hck hce hil2 haw haw'
            go_wp2
            go_meet
            case rel => exact hq
          have hce' : ((came : Int) == (ever.length : Int)) = false := beq_false_of_ne (by omega)
          by_cases hwt : s.clock + m < wait
          · have hq := hquiet (.inr (.inr ((HRel.out.late m).2 hwt)))
            have hwt' : (s.clock : Int) + (m : Int) < (wait : Int) := by omega
            rw [haw'] at hq ⊢
            clear hquiet hck hce hil2 haw haw' hwt
            go_wp2
            go_meet
            case rel => exact hq
          have hwt' : ¬ (s.clock : Int) + (m : Int) < (wait : Int) := by omega
          have hcond : Aside0 (¬ (s.away = true ∨ s.items = [] ∨ s.clock + m < s.frm)) := ⟨by
            rintro (h | h | h)
            · exact haw h
            · exact hce (HRel.out.empty.1 h)
            · exact hwt ((HRel.out.late m).1 h)⟩
          clear hquiet haw hwt
          by_cases hle : un ≤ came
          · have hz := HRel.out.size0 hle
            obtain ⟨u2, hu2⟩ : ∃ u2, u2 = min (came + 4) ever.length := ⟨_, rfl⟩
            have hmn : min ((came : Int) + 4) (ever.length : Int) = (u2 : Int) := by omega
            have hmj : (if (ever.length : Int) < (came : Int) + 4 then (ever.length : Int) else (came : Int) + 4) = (u2 : Int) := by split <;> omega
            have hle' : (un : Int) ≤ (came : Int) := by omega
            have e : Aside0 (turnF s ⟨2, u, (m : Int)⟩ = (⟨0, ((s.batch + 1 : Nat) : Int), s.items.take (u2 - came)⟩, { s with clock := s.clock + m, size := u2 - came, batch := s.batch + 1, away := true })) := ⟨by
              have hsz : min s.items.length 4 = u2 - came := by omega
              rw [e0]; unfold tickF; rw [if_neg hcond.out, if_pos hz, hsz]⟩
            have hu2a : came < u2 := by omega
            have hu2b : u2 ≤ ever.length := by omega
            have hrel2 : Aside0 (RelO { s with clock := s.clock + m, size := u2 - came, batch := s.batch + 1, away := true } ever came u2 wait) := ⟨⟨hcm, HRel.out.items, hu2b, fun h => by omega, fun _ => rfl, fun _ => hu2a, (HRel.out.clock m).hwait⟩⟩
            have hit : Aside0 (s.items.take (u2 - came) = (ever.take u2).drop came) := ⟨by rw [← HRel.out.items, List.drop_take]⟩
            clear hu2 hle hce hil2 hz hcond
            rw [haw']
            have h15 := heap_set1 (j := 1) (u := .int .i64 ((s.batch : Int) + 1)) HP.out.cells
            have HE2 := Aside0.mk (Kd.R_set HP.out.ever HP.out.cells (fun q hq => by rw [E9 q hq]; decide) 1 (.int .i64 ((s.batch : Int) + 1)))
            have HX2 := Aside0.mk (Kd.R_far HP.out.out (p := ⟨b15, 1, none⟩) (fun k hk => hk.1) (.int .i64 ((s.batch : Int) + 1)))
            have HB2 := Aside0.mk (below_set HP.out.below HP.out.lo (j := 1) (v := .int .i64 ((s.batch : Int) + 1)))
            have hlo := HP.out.lo
            have H15 := Aside0.mk h15
            have hev := (Kd.R_reads' HV.out).2.1
            clear h15
            go_upto_region 35 with (fail)
            generalize W.setCell ⟨b15, 1, none⟩ (.int .i64 ((s.batch : Int) + 1)) = W2 at HE2 HX2 HB2 H15 ⊢
            clear x0 x1 x2 y0 y1 y2 f0 f1 f2 HP
            have hm1 := Kd.C_mid (lo := came) (hi := u2) (Kd.R_reads' HE2.out).2.2 (by omega) (by omega) hev
            rw [show Kd.string.sz = 1 from rfl, Nat.mul_one, ← hit.out, if_neg (show ¬ c4 = came by omega)] at hm1
            have htl : (s.items.take (u2 - came)).length = u2 - came := by rw [List.length_take]; have := HRel.out.len; omega
            rw [htl] at hm1
            have HM1 := Aside0.mk hm1
            have c1 : (came : Int) ≤ (u2 : Int) := by omega
            have c2 : (u2 : Int) ≤ (c4 : Int) := by omega
            have c3 : (0 : Int) ≤ (came : Int) := by omega
            have hul : u2 - came ≤ 1000 := by omega
            have hfr : Aside0 (∀ k, W2.heap.size ≤ k → some k ≠ (Value.slice A4 ever.length c4).ownBlock) := ⟨fun k hk he => by have := Kd.R_lt HE2.out k he.symm; omega⟩
            clear hm1 htl
            go_wp2_with ((with_reducible refine gate_builtin (b := .append) (xs := #[.const (.slice none 0 0), .tmp 119]) rfl ?_); at_builtin; refine Kd.R_append_rows Kd.string (w0 := w) w.heap.size rfl (.const (.slice none 0 0)) (.tmp 119) 32 9 (.string ⟨#[]⟩) 16 rfl Try.underlying32 info9 rfl (by decide) (by omega) (.slice none 0 0) [] (s.items.take (u2 - came)) _ _ _ (fun q => some q ≠ (Value.slice A4 ever.length c4).ownBlock) (fun _ => False) rfl rfl (Kd.R_nil _ _ _ _ _) HM1.out (fun x cs h => h) (fun _ h => h.elim) hfr.out HB2.out (below_size HB2.out) (by simp only [List.length_nil]; omega) ?_; intro v5 w5 ho hb hg hat; rw [List.nil_append] at ho; obtain ⟨A5, c5, rfl⟩ := Kd.R_slice ho; have hbw := ((ModT.of_grown (T := []) (B := W2.heap.size) hg (by intro k hk; simp [Value.ownBlock] at hk)).own rfl); have HO5 := Aside0.mk ho; have HB5 := Aside0.mk hb; have HE5 := Aside0.mk (Kd.R_below HE2.out hbw); have HX5 := Aside0.mk (Kd.R_below HX2.out hbw); have h15' := (hbw.block b15 (blk_lt H15.out)).trans H15.out; have z2 : w5.cell? ⟨b15, 2, none⟩ = some (.slice none 0 0) := (by rw [blk_cell h15']; rfl); have f2 := blk_frozen h15' 2; have H15' := Aside0.mk h15'; clear ho hb hg hat hbw h15')
            go_meet
            case rel => exact ⟨by
              have := tick_cut (by have := H15'.out; simpa using this) hlo HE5.out HX5.out HB5.out HO5.out hrel2.out he1 hw1 e.out
              simpa using this⟩
          · have hz : ¬ s.size = 0 := by have := HRel.out.size1 (by omega); omega
            have hle' : ¬ (un : Int) ≤ (came : Int) := by omega
            have hsz := HRel.out.size1 (by omega)
            have e : Aside0 (turnF s ⟨2, u, (m : Int)⟩ = (⟨0, (s.batch : Int), s.items.take (un - came)⟩, { s with clock := s.clock + m, away := true })) := ⟨by rw [e0]; unfold tickF; rw [if_neg hcond.out, if_neg hz, ← hsz]⟩
            have hrel2 : Aside0 (RelO { s with clock := s.clock + m, away := true } ever came un wait) := ⟨⟨hcm, HRel.out.items, hun, HRel.out.size0, HRel.out.size1, fun _ => by omega, (HRel.out.clock m).hwait⟩⟩
            have hit : Aside0 (s.items.take (un - came) = (ever.take un).drop came) := ⟨by rw [← HRel.out.items, List.drop_take]⟩
            have hlt2 : came < un := by omega
            clear hle hce hil2 hz hcond hsz
            rw [haw']
            have h15 := heap_set1 (j := 1) (u := .int .i64 (s.batch : Int)) HP.out.cells
            have HE2 := Aside0.mk (Kd.R_set HP.out.ever HP.out.cells (fun q hq => by rw [E9 q hq]; decide) 1 (.int .i64 (s.batch : Int)))
            have HX2 := Aside0.mk (Kd.R_far HP.out.out (p := ⟨b15, 1, none⟩) (fun k hk => hk.1) (.int .i64 (s.batch : Int)))
            have HB2 := Aside0.mk (below_set HP.out.below HP.out.lo (j := 1) (v := .int .i64 (s.batch : Int)))
            have hlo := HP.out.lo
            have H15 := Aside0.mk h15
            have hev := (Kd.R_reads' HV.out).2.1
            clear h15
            go_upto_region 35 with (fail)
            generalize W.setCell ⟨b15, 1, none⟩ (.int .i64 (s.batch : Int)) = W2 at HE2 HX2 HB2 H15 ⊢
            clear x0 x1 x2 y0 y1 y2 f0 f1 f2 HP
            have hm1 := Kd.C_mid (lo := came) (hi := un) (Kd.R_reads' HE2.out).2.2 (by omega) (by omega) hev
            rw [show Kd.string.sz = 1 from rfl, Nat.mul_one, ← hit.out, if_neg (show ¬ c4 = came by omega)] at hm1
            have htl : (s.items.take (un - came)).length = un - came := by rw [List.length_take]; have := HRel.out.len; omega
            rw [htl] at hm1
            have HM1 := Aside0.mk hm1
            have c1 : (came : Int) ≤ (un : Int) := by omega
            have c2 : (un : Int) ≤ (c4 : Int) := by omega
            have c3 : (0 : Int) ≤ (came : Int) := by omega
            have hul : un - came ≤ 1000 := by omega
            have hfr : Aside0 (∀ k, W2.heap.size ≤ k → some k ≠ (Value.slice A4 ever.length c4).ownBlock) := ⟨fun k hk he => by have := Kd.R_lt HE2.out k he.symm; omega⟩
            clear hm1 htl
            go_wp2_with ((with_reducible refine gate_builtin (b := .append) (xs := #[.const (.slice none 0 0), .tmp 119]) rfl ?_); at_builtin; refine Kd.R_append_rows Kd.string (w0 := w) w.heap.size rfl (.const (.slice none 0 0)) (.tmp 119) 32 9 (.string ⟨#[]⟩) 16 rfl Try.underlying32 info9 rfl (by decide) (by omega) (.slice none 0 0) [] (s.items.take (un - came)) _ _ _ (fun q => some q ≠ (Value.slice A4 ever.length c4).ownBlock) (fun _ => False) rfl rfl (Kd.R_nil _ _ _ _ _) HM1.out (fun x cs h => h) (fun _ h => h.elim) hfr.out HB2.out (below_size HB2.out) (by simp only [List.length_nil]; omega) ?_; intro v5 w5 ho hb hg hat; rw [List.nil_append] at ho; obtain ⟨A5, c5, rfl⟩ := Kd.R_slice ho; have hbw := ((ModT.of_grown (T := []) (B := W2.heap.size) hg (by intro k hk; simp [Value.ownBlock] at hk)).own rfl); have HO5 := Aside0.mk ho; have HB5 := Aside0.mk hb; have HE5 := Aside0.mk (Kd.R_below HE2.out hbw); have HX5 := Aside0.mk (Kd.R_below HX2.out hbw); have h15' := (hbw.block b15 (blk_lt H15.out)).trans H15.out; have z2 : w5.cell? ⟨b15, 2, none⟩ = some (.slice none 0 0) := (by rw [blk_cell h15']; rfl); have f2 := blk_frozen h15' 2; have H15' := Aside0.mk h15'; clear ho hb hg hat hbw h15')
            go_meet
            case rel => exact ⟨by
              have := tick_cut (by have := H15'.out; simpa using this) hlo HE5.out HX5.out HB5.out HO5.out hrel2.out he1 hw1 e.out
              simpa using this⟩
        have n2 : ¬ d = 2 := k2
        by_cases k3 : d = 3 ∨ d = 4
        · have b1 : (d == 1) = false := beq_false_of_ne n1
          have b2 : (d == 2) = false := beq_false_of_ne n2
          have b56 : (d != 3 && d != 4) = false := by rcases k3 with rfl | rfl <;> simp
          have e0 : turnF s ⟨d, u, n⟩ = (⟨(endF s n (decide (d = 3))).1, 0, []⟩, (endF s n (decide (d = 3))).2) := by unfold turnF; rw [if_neg n1, if_neg n2, if_pos k3]
          by_cases haw : s.away = false
          · have e : turnF s ⟨d, u, n⟩ = (⟨8, 0, []⟩, s) := by rw [e0]; unfold endF; rw [if_pos (.inl haw)]
            have hrel8 := Aside0.mk (HP.out.code HRel.out he1 hw1 8 e)
            rw [haw] at hrel8 ⊢
            clear e0 k1 k2 n1 n2 e
            rcases k3 with rfl | rfl
            all_goals
              go_wp2
              go_meet
              case rel => exact hrel8
          have haw' : s.away = true := by simpa using haw
          by_cases hnb : n = (s.batch : Int)
          case neg =>
            have e : turnF s ⟨d, u, n⟩ = (⟨8, 0, []⟩, s) := by rw [e0]; unfold endF; rw [if_pos (.inr hnb)]
            have hrel8 := Aside0.mk (HP.out.code HRel.out he1 hw1 8 e)
            have hnb' : (n != (s.batch : Int)) = true := by simpa using hnb
            rw [haw'] at hrel8 ⊢
            clear e0 k1 k2 n1 n2 e hnb
            rcases k3 with rfl | rfl
            all_goals
              go_wp2
              go_meet
              case rel => exact hrel8
          have hcond : ¬ (s.away = false ∨ n ≠ (s.batch : Int)) := by
            rintro (h | h)
            · exact haw h
            · exact h hnb
          have hnb' : (n != (s.batch : Int)) = false := by simp [hnb]
          have hlt2 := HRel.out.away haw'
          rcases k3 with rfl | rfl
          · have e : turnF s ⟨3, u, n⟩ = (⟨0, 0, []⟩, { s with away := false, items := s.items.drop s.size, size := 0, fails := 0, frm := s.clock }) := by rw [e0]; unfold endF; rw [if_neg hcond, if_neg (by simp)]
            have hrel2 : RelO { s with away := false, items := s.items.drop s.size, size := 0, fails := 0, frm := s.clock } ever un un 0 := ⟨hun, by
              show ever.drop un = s.items.drop s.size
              rw [HRel.out.size1 hlt2, ← HRel.out.items, List.drop_drop]
              congr 1
              omega, hun, fun _ => rfl, fun h => absurd h (Nat.lt_irrefl _), (fun h => by cases h), .inr ⟨Nat.le_refl _, Nat.zero_le _⟩⟩
            have hq := Aside0.mk (HP.out.same hrel2 he1 (Nat.zero_le _) e)
            rw [haw']
            clear e0 k1 k2 n1 n2 e hnb hcond haw
            go_wp2
            go_meet
            case rel => exact hq
          · have e : turnF s ⟨4, u, n⟩ = (⟨0, 0, []⟩, { s with away := false, fails := s.fails + 1, frm := s.clock + waitF (s.fails + 1) }) := by rw [e0]; unfold endF; rw [if_neg hcond, if_pos (by simp)]
            have hrel2 : RelO { s with away := false, fails := s.fails + 1, frm := s.clock + waitF (s.fails + 1) } ever came un (s.clock + waitF (s.fails + 1)) := ⟨hcm, HRel.out.items, hun, HRel.out.size0, HRel.out.size1, (fun h => by cases h), .inl rfl⟩
            have hwl2 := waitF_le (s.fails + 1)
            have hE := Aside0.mk e
            have hR2 := Aside0.mk hrel2
            have H16 : Aside0 (Calls Try.prog 16 #[.int .i64 ((s.fails : Int) + 1)] W fun e w' => e = .returned (.int .i64 ((waitF (s.fails + 1) : Nat) : Int)) ∧ Drawn0 W w') := ⟨by
              have := bagnallref_OutWait.calls _ _ W (refWait_ev (s.fails + 1))
              rwa [show ((s.fails + 1 : Nat) : Int) = (s.fails : Int) + 1 by simp] at this⟩
            have hws : IntKind.i64.wrap ((s.clock : Int) + ((waitF (s.fails + 1) : Nat) : Int)) = (s.clock : Int) + ((waitF (s.fails + 1) : Nat) : Int) := IntWalk.i64_in _ (by omega)
            rw [haw']
            clear e0 k1 k2 n1 n2 e hnb hcond haw hrel2
            go_wp2_with (go_at_call 16; refine H16.out.mono ?_; rintro e w5 ⟨rfl, hd⟩; have HB5 := Aside0.mk hd.below; clear hd)
            go_meet
            case rel => exact ⟨by
              have := (HP.out.move HB5.out).same hR2.out he1 (by omega) hE.out
              simpa using this⟩
        have n3 : ¬ d = 3 := fun h => k3 (.inl h)
        have n4 : ¬ d = 4 := fun h => k3 (.inr h)
        have e : turnF s ⟨d, u, n⟩ = (⟨3, 0, []⟩, s) := by unfold turnF; rw [if_neg n1, if_neg n2, if_neg k3]
        have b1 : (d == 1) = false := beq_false_of_ne n1
        have b2 : (d == 2) = false := beq_false_of_ne n2
        have b3 : (d == 3) = false := beq_false_of_ne n3
        have b4 : (d == 4) = false := beq_false_of_ne n4
        have b5 : (d != 3) = true := by simpa using n3
        have b6 : (d != 4) = true := by simpa using n4
        clear k1 k2 k3 n1 n2 n3 n4
        go_wp2
        go_meet
        case rel => exact ⟨HP.out.code HRel.out he1 hw1 3 e⟩
      case rest =>
        obtain ⟨ever', came', un', wait', v2, rfl, rfl, rfl, rfl, rfl, rfl, rfl, hrel', he', hw', hcell, hr2, hv4, hout, hbl⟩ := hcut.out
        obtain ⟨r, hr⟩ : ∃ r, r = turnF s ⟨d, u, n⟩ := ⟨_, rfl⟩
        rw [← hr] at hrel' hcell hr2 hst hinv ⊢
        obtain ⟨⟨code, bt, rs⟩, s'⟩ := r
        clear hr
        simp only at hrel' hcell hr2 hst hinv ⊢
        obtain ⟨A2, c2, rfl⟩ := Kd.R_slice hr2
        have z0 : wc.cell? ⟨b15, 0, none⟩ = some (.int .i64 code) := by rw [blk_cell hcell]; rfl
        have z1 : wc.cell? ⟨b15, 1, none⟩ = some (.int .i64 bt) := by rw [blk_cell hcell]; rfl
        have z2 : wc.cell? ⟨b15, 2, none⟩ = some (.slice A2 rs.length c2) := by rw [blk_cell hcell]; rfl
        have hap : Aside0 (∀ q, (some q ≠ u4.ownBlock ∧ some q ≠ u12.ownBlock) → some q ≠ u4.ownBlock ∧ some q ≠ u12.ownBlock) := ⟨fun _ h => h⟩
        have hfr : Aside0 (∀ k, wc.heap.size ≤ k → some k ≠ u4.ownBlock) := ⟨fun k hk he => by have := Kd.R_lt hv4 k he.symm; omega⟩
        have HR2 := Aside0.mk (R_apart_types hr2 hout (fun q hq => by rw [E9 q hq]; decide))
        have HV4 := Aside0.mk hv4
        have HOc := Aside0.mk hout
        have HBc := Aside0.mk hbl
        have HRel' := Aside0.mk hrel'
        clear hr2 hv4 hout hbl hcell hrel' hcut HP H14 HI HRel HE HV HO hmb he1 hw1
        obtain ⟨A4', c4', rfl⟩ := Kd.R_slice HV4.out
        go_wp2_with ((with_reducible refine gate_builtin (b := .append) (xs := #[.tmp 147, .tmp 149]) rfl ?_); at_builtin; refine Kd.R_append k34 (w0 := w) w.heap.size rfl (.tmp 147) (.tmp 149) 29 34 _ 40 rfl Try.underlying29 info34 rfl (by decide) (by omega) u12 out ⟨code, bt, rs⟩ [.int .i64 code, .int .i64 bt, .slice A2 rs.length c2] (fun q => some q ≠ (Value.slice A4' ever'.length c4').ownBlock) (fun q => some q ≠ (Value.slice A4' ever'.length c4').ownBlock ∧ some q ≠ u12.ownBlock) rfl rfl (k34_mkM _ _ _ ⟨code, bt, rs⟩ HR2.out) hap.out hfr.out HOc.out HBc.out (below_size HBc.out) (by have := hol.out; omega) ?_; intro v4 w4 ho hb hg hat; obtain ⟨A12, c12, rfl⟩ := Kd.R_slice ho; rw [List.length_append, List.length_singleton] at ho hat; have HO4 := Aside0.mk ho; have HB4 := Aside0.mk hb; have HV5 := Aside0.mk ((ModT.grown (T := [34]) hg HOc.out (by simp) (Nat.le_refl _)).R HV4.out (fun q hq => by rw [E9 q hq]; simp)); clear ho hb hg hat)
        go_roundw
        case rel => exact ⟨i + 1, out ++ [⟨code, bt, rs⟩], s', ever', came', un', wait', by simp, rfl, rfl, rfl, rfl, rfl, rfl, rfl, ⟨hlt⟩, hst, ⟨by have := hol.out; rw [List.length_append, List.length_singleton]; omega⟩, hinv, HRel', ⟨he', by omega⟩, HV5, HO4, HB4⟩
        case measure => simp [intOf]; omega
    · have he : Aside0 (out = turnsF l o0) := ⟨by have := hs.out; rw [List.drop_of_length_le (by omega)] at this; simpa [turnsF] using this⟩
      go_wp2
      go_ret2
      rw [← he.out]
      exact ⟨_, rfl, Kd.R_mono HO.out (fun _ _ => trivial), HB.out⟩
end Go.Proofs.Ytjceapbbapofmaa.Q
