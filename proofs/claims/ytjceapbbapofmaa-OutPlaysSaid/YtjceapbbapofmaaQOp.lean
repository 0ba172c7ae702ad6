/- out.Play, walked. -/
import Derived.Test.YtjceapbbapofmaaQOd
namespace Go.Proofs.Ytjceapbbapofmaa.Q
open Go.RowKit Go.Proofs.YtjceapbbapofmaaW.PrintWords Go.Proofs.YtjceapbbapofmaaW.PrintLast Go.Proofs.YtjceapbbapofmaaW.PrintMore Go.Proofs.Ytjceapbbapofmaa.Plain
def OPlay (w : World) (R : List S34 × Int) (e : Ending) (w' : World) : Prop :=
  ∃ vc, e = .returned (.tuple #[vc, .int .i64 R.2]) ∧ k34.R 34 w' w.heap.size (fun _ => True) vc R.1 ∧ Below w.heap.size w w'
/-- How a turn ends, seen from the loop. -/
def DoIn (base g : Nat) (ob : Option Nat) (wr : World) (c b : Int) (rs : List ByteArray) (s : OSt) (e : Ending) (w' : World) : Prop := ∃ rv ob', e = .returned (.agg #[.int .i64 c, .int .i64 b, rv]) ∧ Kd.string.R 9 w' base (fun q => wr.heap.size ≤ q ∧ some q ≠ ob') rv rs ∧ OutAt w' base g ob' s ∧ Nxt wr ob ob' ∧ ModO g ob base wr w'
theorem E34 : ∀ q, q ∈ 34 :: k34.E → q = 34 ∨ q = 9 := by
  intro q hq
  simpa [k34, Kd.iso, Kd.pair, Kd.slice, Kd.int, Kd.string, Kd.scalar] using hq
set_option maxRecDepth 100000 in
set_option maxHeartbeats 8000000 in
theorem out_Play (A : Option Addr) (c : Nat) (l : List S72) (w : World) (hr : Kd.C k72 w A l.length l) (hc : l.length ≤ c) (hk : ∀ a ∈ l, a.f1.size ≤ 140737488351232) :
    Calls Try.prog 17 #[.slice A l.length c] w (OPlay w (oplayF l)) := by
  unfold oplayF
  by_cases hl : 100 < l.length
  · rw [if_pos hl]
    clear hr hk
    go_enter Try.func17, Try.ntmps17
    go_wp2
    go_ret2
    exact ⟨_, rfl, Kd.R_nil _ _ _ _ _, Below.refl _ _⟩
  rw [if_neg hl]
  have HR := Aside0.mk hr
  have HC := Aside0.mk hc
  have HK := Aside0.mk hk
  clear hr hc hk
  have hs0 : Aside0 (OutAt (w.alloc (.cells #[.slice none 0 0, .int .i64 0, .int .i64 0, .bool false, .int .i64 0, .int .i64 0, .int .i64 0] 70)) w.heap.size w.heap.size none o0) := ⟨none, 0, rfl, by rw [heap_alloc_new]; rfl, Nat.le_refl _, Kd.R_nil _ _ _ _ _⟩
  have hB0 : Aside0 (Below w.heap.size w (w.alloc (.cells #[.slice none 0 0, .int .i64 0, .int .i64 0, .bool false, .int .i64 0, .int .i64 0, .int .i64 0] 70))) := ⟨below_alloc (Below.refl _ _) _⟩
  go_enter Try.func17, Try.ntmps17
  go_wp2
  go_loopw [5, 15] (fun v5 v15 wr => ∃ (i : Nat) (out : List S34) (s : OSt) (ob : Option Nat), v15 = .int .i64 i ∧ Aside0 (i ≤ l.length) ∧ Aside0 (out ++ turnsF (l.drop i) s = turnsF l o0) ∧ Aside0 (out.length ≤ i) ∧ Aside0 (OInv s i) ∧ Aside0 (OutAt wr w.heap.size w.heap.size ob s) ∧ Aside0 (k34.R 34 wr w.heap.size (fun q => some q ≠ ob ∧ q ≠ w.heap.size) v5 out) ∧ Aside0 (Below w.heap.size w wr)) (fun _ v15 _ => l.length - (intOf v15).toNat)
  case atStart => exact ⟨0, [], o0, none, rfl, ⟨Nat.zero_le _⟩, ⟨rfl⟩, ⟨Nat.le_refl _⟩, ⟨o0_inv⟩, hs0, ⟨Kd.R_nil _ _ _ _ _⟩, hB0⟩
  case round =>
    obtain ⟨i, out, s, ob, rfl, hi, hs, hol, HI, HS, HO, HB⟩ := hrel
    have hil := hi.out
    by_cases hlt : i < l.length
    · have hst := Aside0.mk (turns_next hs.out hlt)
      obtain ⟨ad, rfl, y0, y1, y2⟩ := at_T72 HR.out (i : Int) (by omega) (by omega)
      have x0 := (HB.out.cell (World.block_lt_of_cell? w _ y0)).trans y0
      have x1 := (HB.out.cell (World.block_lt_of_cell? w _ y1)).trans y1
      have x2 := (HB.out.cell (World.block_lt_of_cell? w _ y2)).trans y2
      clear y0 y1 y2
      rw [Int.toNat_natCast] at x0 x1 x2
      obtain ⟨m, hm⟩ : ∃ m, m = rd_T72 l (i : Int) := ⟨_, rfl⟩
      rw [← hm] at hst x0 x1 x2
      have hmb : m.f1.size ≤ 140737488351232 := HK.out _ (by
        rw [hm]
        unfold rd_T72
        rw [Int.toNat_natCast, List.getD_eq_getElem?_getD, List.getElem?_eq_getElem hlt]
        exact List.getElem_mem _)
      have hinv : Aside0 (OInv (turnF s m).2 (i + 1)) := ⟨turnF_inv HI.out m⟩
      have hcall : Aside0 (∀ W, Below wr.heap.size wr W → Calls Try.prog 39 #[.pointer (some ⟨w.heap.size, 0, none⟩), .agg #[.int .i64 m.f0, .string m.f1, .int .i64 m.f2]] W (DoIn w.heap.size w.heap.size ob wr (turnF s m).1.f0 (turnF s m).1.f1 (turnF s m).1.f2 (turnF s m).2)) := ⟨fun W hW => (do_walk w.heap.size w.heap.size ob s m i W (HS.out.below hW) HI.out (by omega) hmb).mono fun e w' ⟨rv, ob', h1, h2, h3, hn, h4⟩ => ⟨rv, ob', h1, Kd.R_mono (Kd.R_lower (Kd.R_bound h2) (Nat.le_trans HB.out.size hW.size)) (fun q hq => ⟨Nat.le_trans hW.size hq.2.1, hq.1⟩), h3, hn.from hW.size, (ModO.of_below hW).trans h4⟩⟩
      obtain ⟨d, u, n⟩ := m
      obtain ⟨r, hr⟩ : ∃ r, Aside0 (r = turnF s ⟨d, u, n⟩) := ⟨_, ⟨rfl⟩⟩
      rw [← hr.out] at hcall hst hinv
      obtain ⟨⟨code, bt, rs⟩, s'⟩ := r
      clear hm hr hmb
      simp only at hcall hst hinv x0 x1 x2
      go_wp2_with (first | (go_at_call 39; refine (hcall.out _ (by repeat (first | exact Below.refl _ _ | refine below_set ?_ (Nat.le_refl _) | apply below_alloc))).mono ?_; rintro e w3 ⟨rv, ob', rfl, ho, hsn, hn, hm⟩; obtain ⟨Ar, cr, rfl⟩ := Kd.R_slice ho; have HR3 := Aside0.mk ho; have HS3 := Aside0.mk hsn; have HO3 : Aside0 (k34.R 34 w3 w.heap.size (fun q => some q ≠ ob' ∧ q ≠ w.heap.size) u5 out) := ⟨Kd.R_mono (Kd.R_move (Kd.R_bound HO.out) (fun q hq => (by rcases hm.only q hq.2.2.1 with h | h | h; exact absurd h hq.1.2; exact absurd h hq.1.1; exact h))) (fun q hq => ⟨(by rcases hn with h | h; exact h ▸ hq.1.1; exact fun he => (by have := h q he.symm; have := hq.2.2.1; omega)), hq.1.2⟩)⟩; have HB3 := Aside0.mk (hm.modT.below HB.out HB.out.size); have hzl : w.heap.size < wr.heap.size := blk_lt (Exists.choose_spec (Exists.choose_spec HS.out)).2.1; have hap : Aside0 (∀ q, (wr.heap.size ≤ q ∧ some q ≠ ob') → (some q ≠ ob' ∧ q ≠ w.heap.size) ∧ some q ≠ u5.ownBlock) := ⟨fun q hq => ⟨⟨hq.2, by omega⟩, fun he => (by have := Kd.R_lt HO.out q he.symm; omega)⟩⟩; have hfr : Aside0 (∀ k, w3.heap.size ≤ k → some k ≠ ob' ∧ k ≠ w.heap.size) := ⟨fun k hk => ⟨fun he => (by have := HS3.out.lt k he.symm; omega), by have := hm.modT.size; omega⟩⟩; clear ho hsn hm hn) | ((with_reducible refine gate_builtin (b := .append) (xs := #[.tmp 19, .tmp 23]) rfl ?_); at_builtin; refine Kd.R_append k34 (w0 := w) w.heap.size rfl (.tmp 19) (.tmp 23) 29 34 _ 40 rfl Try.underlying29 info34 rfl (by decide) (by omega) u5 out ⟨code, bt, rs⟩ [.int .i64 code, .int .i64 bt, .slice Ar rs.length cr] (fun q => some q ≠ ob' ∧ q ≠ w.heap.size) (fun q => wr.heap.size ≤ q ∧ some q ≠ ob') rfl rfl (k34_mkM _ _ _ ⟨code, bt, rs⟩ HR3.out) hap.out hfr.out HO3.out HB3.out (below_size HB3.out) (by have := hol.out; omega) ?_; intro v4 w4 ho hb hg hat; obtain ⟨A4, c4, rfl⟩ := Kd.R_slice ho; rw [List.length_append, List.length_singleton] at ho hat; have HO4 := Aside0.mk ho; have HB4 := Aside0.mk hb; have HS4 := Aside0.mk (HS3.out.mod (ModT.grown (T := [34]) hg HO3.out (by simp) (Nat.le_refl _)) (by simp) (by simp)); clear ho hb hg hat))
      go_roundw
      case rel => exact ⟨i + 1, out ++ [⟨code, bt, rs⟩], s', ob', by simp, ⟨hlt⟩, hst, ⟨by have := hol.out; rw [List.length_append, List.length_singleton]; omega⟩, hinv, HS4, HO4, HB4⟩
      case measure => simp [intOf]; omega
    · have he : Aside0 (out = turnsF l o0) := ⟨by have := hs.out; rw [List.drop_of_length_le (by omega)] at this; simpa [turnsF] using this⟩
      go_wp2
      go_ret2
      rw [← he.out]
      exact ⟨_, rfl, Kd.R_mono HO.out (fun _ _ => trivial), HB.out⟩
end Go.Proofs.Ytjceapbbapofmaa.Q
