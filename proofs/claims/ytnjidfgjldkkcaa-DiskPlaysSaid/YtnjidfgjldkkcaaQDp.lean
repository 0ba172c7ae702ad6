/- disk.play, disk.Held, disk.Play, walked. -/
import Derived.Test.YtnjidfgjldkkcaaQDk
import Derived.Test.YtnjidfgjldkkcaaQCb
namespace Go.Proofs.Ytnjidfgjldkkcaa.Q
open Go.RowKit Go.Proofs.YtnjidfgjldkkcaaW.PrintWords Go.Proofs.YtnjidfgjldkkcaaW.PrintLast Go.Proofs.YtnjidfgjldkkcaaW.PrintMore
def dskPlay : List S72 → List Int → Nat → List Int × List Int × Nat
  | [], d, s => ([], d, s)
  | m :: t, d, s => ((dskStep d s m).1 :: (dskPlay t (dskStep d s m).2.1 (dskStep d s m).2.2).1, (dskPlay t (dskStep d s m).2.1 (dskStep d s m).2.2).2)
theorem dskStep_len (d : List Int) (s : Nat) (m : S72) (h : d.length ≤ 1200) : (dskStep d s m).2.1.length ≤ 1200 := by
  unfold dskStep
  repeat' split
  all_goals first | exact h | (simp only [List.length_append, List.length_take]; omega)
theorem dsk_next {l : List S72} {d : List Int} {s i : Nat} {cs : List Int} {R : List Int × List Int × Nat} (h : (cs ++ (dskPlay (l.drop i) d s).1, (dskPlay (l.drop i) d s).2) = R) (hi : i < l.length) :
    ((cs ++ [(dskStep d s (rd_T72 l i)).1]) ++ (dskPlay (l.drop (i + 1)) (dskStep d s (rd_T72 l i)).2.1 (dskStep d s (rd_T72 l i)).2.2).1, (dskPlay (l.drop (i + 1)) (dskStep d s (rd_T72 l i)).2.1 (dskStep d s (rd_T72 l i)).2.2).2) = R := by
  have e : rd_T72 l (i : Int) = l[i] := by
    unfold rd_T72
    rw [Int.toNat_natCast, List.getD_eq_getElem?_getD, List.getElem?_eq_getElem hi]; rfl
  rw [← h, List.drop_eq_getElem_cons hi, e]
  simp only [dskPlay, List.append_assoc, List.singleton_append]
set_option maxRecDepth 100000 in
set_option maxHeartbeats 8000000 in
theorem play_big (A : Option Addr) (c : Nat) (l : List S72) (w : World) (hl : 100 < l.length) :
    Calls Try.prog 57 #[.slice A l.length c] w fun e w' => e = .returned (.tuple #[.pointer none, .slice none 0 0, .int .i64 1]) ∧ w = w' := by
  go_enter Try.func57, Try.ntmps57
  go_wp2
  go_ret3
  exact ⟨rfl, rfl⟩
def PlayPost (w : World) (R : List Int × List Int × Nat) (e : Ending) (w' : World) : Prop :=
  ∃ g vc vd, e = .returned (.tuple #[.pointer (some ⟨g, 0, none⟩), vc, .int .i64 0]) ∧ DiskAt 90 [] w' w.heap.size g vd R.2.2 R.2.1 ∧ (Kd.int .i64).R 25 w' w.heap.size (fun _ => True) vc R.1 ∧ Below w.heap.size w w'
set_option maxRecDepth 100000 in
set_option maxHeartbeats 8000000 in
theorem play_walk (A : Option Addr) (c : Nat) (l : List S72) (w : World) (hr : Kd.C k72 w A l.length l) (hc : l.length ≤ c) (hb : ∀ m ∈ l, m.f1.length ≤ 140737488351232) (hl : l.length ≤ 100) :
    Calls Try.prog 57 #[.slice A l.length c] w (PlayPost w (dskPlay l [] 0)) := by
  have HR := Aside0.mk hr
  have HC := Aside0.mk hc
  have HBm := Aside0.mk hb
  clear hr hc hb
  have hd0 : Aside0 (DiskAt 90 [] (w.alloc (.cells #[.slice none 0 0, .int .i64 0] 90)) w.heap.size w.heap.size (.slice none 0 0) 0 []) := ⟨⟨by rw [heap_alloc_new]; rfl, Nat.le_refl _, Kd.R_nil _ _ _ _ _, Nat.le_refl _⟩⟩
  have hB0 : Aside0 (Below w.heap.size w (w.alloc (.cells #[.slice none 0 0, .int .i64 0] 90))) := ⟨below_alloc (Below.refl _ _) _⟩
  go_enter Try.func57, Try.ntmps57
  go_wp2
  go_loopw [6, 16] (fun v6 v16 wr => ∃ (i s : Nat) (cs d : List Int) (vd : Value), v16 = .int .i64 i ∧ Aside0 (i ≤ l.length) ∧ Aside0 ((cs ++ (dskPlay (l.drop i) d s).1, (dskPlay (l.drop i) d s).2) = dskPlay l [] 0) ∧ Aside0 (cs.length ≤ i) ∧ Aside0 (d.length ≤ 1200) ∧ Aside0 (DiskAt 90 [] wr w.heap.size w.heap.size vd s d) ∧ Aside0 ((Kd.int .i64).R 25 wr w.heap.size (fun _ => True) v6 cs) ∧ Aside0 (Below w.heap.size w wr)) (fun _ v16 _ => l.length - (intOf v16).toNat)
  case atStart => exact ⟨0, 0, [], [], _, rfl, ⟨Nat.zero_le _⟩, ⟨rfl⟩, ⟨Nat.le_refl _⟩, ⟨by simp⟩, hd0, ⟨Kd.R_nil _ _ _ _ _⟩, hB0⟩
  case round =>
    obtain ⟨i, s, cs, d, vd, rfl, hi, hs, hcl, hdl, HD, HO, HB⟩ := hrel
    have hil := hi.out
    by_cases hlt : i < l.length
    · have hst := Aside0.mk (dsk_next hs.out hlt)
      have hdl2 := Aside0.mk (dskStep_len d s (rd_T72 l i) hdl.out)
      obtain ⟨ad, A1, c1, rfl, x0, x1, x2, l1, g1⟩ := at_T72 (Kd.C_below HR.out HB.out) (i : Int) (by omega) (by omega)
      rw [Int.toNat_natCast] at x0 x1 x2
      obtain ⟨m, hm⟩ : ∃ m, m = rd_T72 l (i : Int) := ⟨_, rfl⟩
      rw [← hm] at hst hdl2 x0 x1 x2 l1 g1
      have hmb : Aside0 (m.f1.length ≤ 140737488351232) := ⟨HBm.out _ (by rw [hm]; unfold rd_T72; rw [Int.toNat_natCast, List.getD_eq_getElem?_getD, List.getElem?_eq_getElem hlt]; exact List.getElem_mem _)⟩
      have hcall : Aside0 (∀ W, Below wr.heap.size wr W → Calls Try.prog 75 #[.pointer (some ⟨w.heap.size, 0, none⟩), .agg #[.int .i64 m.f0, .slice A1 m.f1.length c1, .int .i64 m.f2]] W (DkPost 90 [] w.heap.size w.heap.size wr (.int .i64 (dskStep d s m).1) (dskStep d s m).2.2 (dskStep d s m).2.1)) := ⟨fun W hW => (disk_do 90 [] _ _ _ s d m A1 c1 W (HD.out.keep (ModT.of_below (T := []) (B := 0) hW) (by simp) (by simp)) (by omega) (Kd.C_below g1 hW) l1 (by have := hdl.out; omega) hmb.out).mono fun e w' ⟨v, h1, h2, h3⟩ => ⟨v, h1, h2, (ModT.of_below hW).trans h3⟩⟩
      obtain ⟨code, hcode⟩ : ∃ z, Aside0 (z = (dskStep d s m).1) := ⟨_, ⟨rfl⟩⟩
      rw [← hcode.out] at hcall hst
      clear hm l1 g1
      go_wp2_with (first | (go_at_call 75; refine (hcall.out _ (by repeat (first | exact Below.refl _ _ | refine below_set ?_ (Nat.le_refl _) | apply below_alloc))).mono ?_; rintro e w3 ⟨v', rfl, hd, hm⟩; have HD3 := Aside0.mk hd; have HO3 := Aside0.mk (hm.R HO.out (by intro q hq; simp [Kd.int, Kd.scalar] at hq; subst hq; simp)); have HB3 := Aside0.mk (hm.below HB.out HB.out.size); clear hd hm) | ((with_reducible refine gate_builtin (b := .append) (xs := #[.tmp 20, .tmp 24]) rfl ?_); at_builtin; refine Kd.R_append (Kd.int .i64) (w0 := w) w.heap.size rfl (.tmp 20) (.tmp 24) 49 25 (.int .i64 0) 8 rfl Try.underlying49 info25 rfl (by decide) (by omega) u6 cs code [.int .i64 code] (fun _ => True) (fun _ => False) rfl rfl rfl (fun _ h => h.elim) (fun _ _ => trivial) HO3.out HB3.out (below_size HB3.out) (by have := hcl.out; omega) ?_; intro v4 w4 ho hb hg hat; obtain ⟨A4, c4, rfl⟩ := Kd.R_slice ho; rw [List.length_append, List.length_singleton] at ho hat; have HO4 := Aside0.mk ho; have HB4 := Aside0.mk hb; have HD4 := Aside0.mk (HD3.out.keep (ModT.grown (T := [25]) hg HO3.out (by simp) (Nat.le_refl _)) (by simp) (by simp)); clear ho hb hg hat))
      go_roundw
      case rel => exact ⟨i + 1, _, cs ++ [code], _, v', by simp, ⟨hlt⟩, hst, ⟨by have := hcl.out; rw [List.length_append, List.length_singleton]; omega⟩, hdl2, HD4, HO4, HB4⟩
      case measure => simp [intOf]; omega
    · have he : Aside0 ((cs, d, s) = dskPlay l [] 0) := ⟨by have := hs.out; rw [List.drop_of_length_le (by omega)] at this; simpa [dskPlay] using this⟩
      go_wp2
      go_ret3
      rw [← he.out]
      exact ⟨_, _, vd, rfl, HD.out, HO.out, HB.out⟩
theorem dskPlay_len : ∀ (l : List S72) (d : List Int) (s : Nat), d.length ≤ 1200 → (dskPlay l d s).2.1.length ≤ 1200 ∧ (dskPlay l d s).1.length = l.length
  | [], d, s, h => ⟨h, rfl⟩
  | m :: t, d, s, h => by
    have := dskPlay_len t _ (dskStep d s m).2.2 (dskStep_len d s m h)
    simp only [dskPlay, List.length_cons]
    exact ⟨this.1, by rw [this.2]⟩
/-- What disk.Held says: how many bytes, how many synced, the code. -/
def heldF (l : List S72) : Int × Int × Int := if 100 < l.length then (0, 0, 1) else (((dskPlay l [] 0).2.1.length : Int), ((dskPlay l [] 0).2.2 : Int), 0)
def disk_Held.f (l : List S72) : Option (Int × Int × Int) := if l.all (fun m => decide (m.f1.length ≤ 140737488351232)) = true then some (heldF l) else none
theorem moves_of {l : List S72} (h : l.all (fun m => decide (m.f1.length ≤ 140737488351232)) = true) : ∀ m ∈ l, m.f1.length ≤ 140737488351232 := fun m hm => by
  have := List.all_eq_true.1 h m hm
  simpa using this
set_option maxRecDepth 100000 in
set_option maxHeartbeats 8000000 in
theorem disk_Held.calls (A0 : Option Addr) (c0 : Nat) (l0 : List S72) (r1 r2 r3 : Int) (w : World) (hr0 : Kd.C k72 w A0 l0.length l0) (hc0 : l0.length ≤ c0) (h : disk_Held.f l0 = some (r1, r2, r3)) :
    Calls Try.prog 33 #[.slice A0 l0.length c0] w fun e w' => e = .returned (.tuple #[.int .i64 r1, .int .i64 r2, .int .i64 r3]) ∧ Below w.heap.size w w' := by
  unfold disk_Held.f at h
  by_cases ha : l0.all (fun m => decide (m.f1.length ≤ 140737488351232)) = true
  case neg => rw [if_neg ha] at h; cases h
  rw [if_pos ha] at h
  replace h := Option.some.inj h
  unfold heldF at h
  by_cases hl : 100 < l0.length
  · rw [if_pos hl] at h
    simp only [Prod.mk.injEq] at h
    obtain ⟨rfl, rfl, rfl⟩ := h
    have H := Aside0.mk (fun W => play_big A0 c0 l0 W hl)
    clear hr0 ha hl
    go_enter Try.func33, Try.ntmps33
    go_wp2_with (go_at_call 57; refine (H.out _).mono ?_; rintro e w1 ⟨rfl, rfl⟩)
    go_ret3
    exact ⟨rfl, Below.refl _ _⟩
  · rw [if_neg hl] at h
    simp only [Prod.mk.injEq] at h
    obtain ⟨rfl, rfl, rfl⟩ := h
    have H := Aside0.mk (play_walk A0 c0 l0 w hr0 hc0 (moves_of ha) (by omega))
    obtain ⟨R, hR⟩ : ∃ R, R = dskPlay l0 [] 0 := ⟨_, rfl⟩
    rw [← hR] at H ⊢
    obtain ⟨cs, d, s⟩ := R
    clear hR hr0 ha hl
    go_enter Try.func33, Try.ntmps33
    go_wp2_with (go_at_call 57; refine H.out.mono ?_; rintro e w1 ⟨g, vc, vd, rfl, hd, ho, hb⟩; obtain ⟨Ad, cd, rfl⟩ := Kd.R_slice hd.2.2.1; obtain ⟨x0, x1, _, _⟩ := hd.cells; have HB := Aside0.mk hb; clear hd ho hb)
    go_quiet (fail)
    go_wp2
    go_ret3
    exact ⟨rfl, pw_below_drewN HB.out _⟩
def playF (l : List S72) : List Int × List Int × Int := if 100 < l.length then ([], [], 1) else ((dskPlay l [] 0).1, (dskPlay l [] 0).2.1, 0)
def Play2 (w : World) (R : List Int × List Int × Int) (e : Ending) (w' : World) : Prop :=
  ∃ vc vd, e = .returned (.tuple #[vc, vd, .int .i64 R.2.2]) ∧ (Kd.int .i64).R 25 w' w.heap.size (fun _ => True) vc R.1 ∧ (Kd.int .u8).R 5 w' w.heap.size (fun _ => True) vd R.2.1 ∧ Below w.heap.size w w'
set_option maxRecDepth 100000 in
set_option maxHeartbeats 8000000 in
theorem disk_Play (A : Option Addr) (c : Nat) (l : List S72) (w : World) (hr : Kd.C k72 w A l.length l) (hc : l.length ≤ c) (hb : ∀ m ∈ l, m.f1.length ≤ 140737488351232) :
    Calls Try.prog 35 #[.slice A l.length c] w (Play2 w (playF l)) := by
  unfold playF
  by_cases hl : 100 < l.length
  · rw [if_pos hl]
    have H := Aside0.mk (fun W => play_big A c l W hl)
    clear hr hb hl
    go_enter Try.func35, Try.ntmps35
    go_wp2_with (go_at_call 57; refine (H.out _).mono ?_; rintro e w1 ⟨rfl, rfl⟩)
    go_ret3
    exact ⟨_, _, rfl, Kd.R_nil _ _ _ _ _, Kd.R_nil _ _ _ _ _, Below.refl _ _⟩
  · rw [if_neg hl]
    have H := Aside0.mk (play_walk A c l w hr hc hb (by omega))
    have hdl := (dskPlay_len l [] 0 (by simp)).1
    obtain ⟨R, hR⟩ : ∃ R, R = dskPlay l [] 0 := ⟨_, rfl⟩
    rw [← hR] at H hdl ⊢
    obtain ⟨cs, d, s⟩ := R
    have HL : Aside0 (d.length ≤ 1200) := ⟨hdl⟩
    clear hR hr hb hl hdl
    go_enter Try.func35, Try.ntmps35
    go_wp2_with (first | (go_at_call 57; refine H.out.mono ?_; rintro e w1 ⟨g, vc, vd, rfl, hd, ho, hb⟩; obtain ⟨Ad, cd, rfl⟩ := Kd.R_slice hd.2.2.1; obtain ⟨Ac, cc, rfl⟩ := Kd.R_slice ho; obtain ⟨x0, x1, _, _⟩ := hd.cells; have HB := Aside0.mk hb; have HD := Aside0.mk (Kd.R_reads' hd.2.2.1); have HO := Aside0.mk ho; clear hd ho hb) | (go_at_call 58; refine (slices_Clone_byte_byte.calls Ad cd d d _ HD.out.2.2 HD.out.2.1 (by unfold slices_Clone_byte_byte.f; rw [if_pos (by have := HL.out; omega)])).mono ?_; rintro e w2 ⟨v2, rfl, ho2, hb2⟩; obtain ⟨A2, c2, rfl⟩ := Kd.R_slice ho2; have HO2 := Aside0.mk (Kd.R_lower ho2 HB.out.size); have HO1 := Aside0.mk (Kd.R_below HO.out hb2); have HB2 := Aside0.mk (below_step HB.out hb2); clear ho2 hb2))
    go_ret3
    exact ⟨_, _, rfl, HO1.out, HO2.out, HB2.out⟩
end Go.Proofs.Ytnjidfgjldkkcaa.Q
