/- disk.Play answers as the reference does, for all moves; no condition. -/
import Derived.Test.YtnjidfgjldkkcaaPureDiskHelds
import Derived.Test.YtnjidfgjldkkcaaPlWal
namespace Go.Proofs.Ytnjidfgjldkkcaa.Pure
open Go.RowKit Go.Proofs.Ytnjidfgjldkkcaa.Q Go.Proofs.YtnjidfgjldkkcaaW.PrintWords Go.Proofs.Ytnjidfgjldkkcaa.Plain
theorem same_walk (A B : Option Addr) (c c' m m' : Nat) (x y : List Int) (w : World) (hx : Kd.C (Kd.int .u8) w A x.length x) (hc : x.length ≤ c) (hy : Kd.C (Kd.int .u8) w B y.length y) (hc' : y.length ≤ c') (h : y = x) (hl : x.length ≤ 1000000) (hm : x.length = m) (hm' : y.length = m') :
    Calls Try.prog 29 #[.slice A m c, .slice B m' c'] w fun e w' => e = .returned (.bool true) ∧ Drawn0 w w' := by
  subst hm hm' h
  obtain ⟨n, hn⟩ := (sameB_ev y hl).rounds
  exact bagnalllaw_sameBytes.calls n A c y B c' y true w hx hc hy hc' hn
set_option maxRecDepth 100000 in
set_option maxHeartbeats 8000000 in
theorem walkDiskPlays (W : World) (l : List S72) (A : Option Addr) (c : Nat) (hc : l.length ≤ c) (C : Kd.C k72 W A l.length l) (okM : MovesOk l) :
    Calls Try.prog 11 #[.slice A l.length c] W fun e w' => e = .returned (.bool true) ∧ Below W.heap.size W w' := by
  have ok := okM.len
  have H1 := Aside0.mk (disk_Play A c l W C hc ok)
  have H2 : Aside0 (∀ w, Below W.heap.size W w → Calls Try.prog 34 #[.slice A l.length c] w (Played w (playedF l))) := ⟨fun w hw => ref_DiskPlayed A c l w (Kd.C_below C hw) hc ok⟩
  obtain ⟨p1, p2, p3, hp⟩ : ∃ x y z, playF l = (x, y, z) := ⟨_, _, _, rfl⟩
  obtain ⟨q1, q2, q3, q4, hq⟩ : ∃ x y z u, playedF l = (x, y, z, u) := ⟨_, _, _, _, rfl⟩
  rw [hp] at H1
  rw [hq] at H2
  have hf : p1 = q1 ∧ p2 = q2 ++ q3 ∧ p3 = q4 ∧ p2.length ≤ 1200 ∧ p1.length ≤ 100 := by
    unfold playF at hp
    unfold playedF at hq
    by_cases hl : 100 < l.length
    · rw [if_pos hl] at hp hq
      simp only [Prod.mk.injEq] at hp hq
      obtain ⟨rfl, rfl, rfl⟩ := hp
      obtain ⟨rfl, rfl, rfl, rfl⟩ := hq
      simp
    · rw [if_neg hl] at hp hq
      simp only [Prod.mk.injEq] at hp hq
      have hd := dskPlay_len l [] 0 (by simp)
      obtain ⟨rfl, rfl, rfl⟩ := hp
      obtain ⟨rfl, rfl, rfl, rfl⟩ := hq
      exact ⟨rfl, (List.take_append_drop _ _).symm, rfl, hd.1, by omega⟩
  obtain ⟨rfl, hf2, rfl, hf4, hf5⟩ := hf
  replace hf2 := Aside0.mk hf2
  have hl23 : Aside0 (q2.length + q3.length ≤ 1200) := ⟨by have := hf4; rw [hf2.out, List.length_append] at this; exact this⟩
  replace hf4 := Aside0.mk hf4
  replace hf5 := Aside0.mk hf5
  clear hp hq C hc ok okM
  go_enter Try.func11, Try.ntmps11
  go_wp2_with (first | (go_at_call 35; refine H1.out.mono ?_; rintro e w1 ⟨vc, vd, rfl, ho1, ho2, hb1⟩; obtain ⟨Ac, cc, rfl⟩ := Kd.R_slice ho1; obtain ⟨Ad, cd, rfl⟩ := Kd.R_slice ho2; have HB1 := Aside0.mk hb1; have HO1 := Aside0.mk ho1; have HO2 := Aside0.mk ho2; clear ho1 ho2 hb1) | (go_at_call 34; refine (H2.out _ HB1.out).mono ?_; rintro e w2 ⟨v1, v2, v3, rfl, ho1, ho2, ho3, hb2⟩; obtain ⟨A1, c1, rfl⟩ := Kd.R_slice ho1; obtain ⟨A2, c2, rfl⟩ := Kd.R_slice ho2; obtain ⟨A3, c3, rfl⟩ := Kd.R_slice ho3; have HB2 := Aside0.mk (below_step HB1.out hb2); have HP1 := Aside0.mk ho1; have HP2 := Aside0.mk ho2; have HP3 := Aside0.mk ho3; have HO1' := Aside0.mk (Kd.R_below HO1.out hb2); have HO2' := Aside0.mk (Kd.R_below HO2.out hb2); have CC2 : Aside0 (∀ w, Below w2.heap.size w2 w → (Kd.int .u8).C w A2 q2.length q2) := ⟨fun w hw => Kd.C_below (Kd.R_reads' HP2.out).2.2 hw⟩; have CC3 : Aside0 (∀ w, Below w2.heap.size w2 w → (Kd.int .u8).C w A3 q3.length q3) := ⟨fun w hw => Kd.C_below (Kd.R_reads' HP3.out).2.2 hw⟩; clear ho1 ho2 ho3 hb2) | (refine R_append_rows_w (Kd.int .u8) (w0 := w2) w2.heap.size (by rfl) (.const (.slice none 0 0)) (.tmp 36) 36 5 (.int .u8 0) 1 rfl Try.underlying36 info5 rfl (by decide) (by omega) (.slice none 0 0) [] q2 _ _ _ (fun _ => True) (fun _ => False) rfl rfl (Kd.R_nil _ _ _ _ _) (CC2.out _ (Below.refl _ _)) (fun x cs h => h) (fun _ h => h.elim) (fun _ _ => trivial) (Below.refl _ _) (Nat.le_refl _) (by have := hl23.out; simp only [List.length_nil]; omega) ?_; intro v5 w5 ho hb hg hat; rw [List.nil_append] at ho; obtain ⟨A5, c5, rfl⟩ := Kd.R_slice ho; have HO5 := Aside0.mk ho; have HB5 := Aside0.mk hb; clear ho hb hg hat) | (refine R_append_rows_w (Kd.int .u8) (w0 := w2) w2.heap.size (by rfl) (.tmp 37) (.tmp 38) 36 5 (.int .u8 0) 1 rfl Try.underlying36 info5 rfl (by decide) (by omega) (.slice A5 q2.length c5) q2 q3 _ _ _ (fun _ => True) (fun _ => False) rfl rfl HO5.out (CC3.out _ HB5.out) (fun x cs h => h) (fun _ h => h.elim) (fun _ _ => trivial) HB5.out (below_size HB5.out) (by have := hl23.out; omega) ?_; intro v6 w6 ho hb hg hat; obtain ⟨A6, c6, rfl⟩ := Kd.R_slice ho; rw [List.length_append] at ho; have HO6 := Aside0.mk ho; have HB6 := Aside0.mk hb; clear ho hb hg hat) | (go_at_call 29; refine (same_walk Ad A6 cd c6 p2.length (q2.length + q3.length) p2 (q2 ++ q3) _ (Kd.R_reads' (Kd.R_below HO2'.out HB6.out)).2.2 (Kd.R_reads' HO2'.out).2.1 (by have := (Kd.R_reads' HO6.out).2.2; exact this) (by have := (Kd.R_reads' HO6.out).2.1; rw [List.length_append]; exact this) hf2.out.symm (by have := hf4.out; omega) rfl (by rw [List.length_append])).mono ?_; rintro e w7 ⟨rfl, hd⟩; have HX := Aside0.mk (Kd.R_below (Kd.R_below HO1'.out HB6.out) hd.below); have HY := Aside0.mk (Kd.R_below (Kd.R_below HP1.out HB6.out) hd.below); have HB7 := Aside0.mk (below_step (below_step HB2.out HB6.out) hd.below); clear hd))
  go_loopw [10] (fun v10 wr => ∃ i : Nat, v10 = .int .i64 i ∧ Aside0 (i ≤ p1.length) ∧ Aside0 (Drawn0 w7 wr)) (fun v10 _ => p1.length - (intOf v10).toNat)
  case atStart => exact ⟨0, rfl, ⟨Nat.zero_le _⟩, ⟨Drawn0.refl _⟩⟩
  case round =>
    obtain ⟨i, rfl, hi, hd⟩ := hrel
    have hil := hi.out
    by_cases hlt : i < p1.length
    · obtain ⟨ad, rfl, hx⟩ := Kd.at_int (Kd.R_reads' (Kd.R_below HX.out hd.out.below)).2.2 (i : Int) (by omega) (by omega)
      obtain ⟨ad', rfl, hy⟩ := Kd.at_int (Kd.R_reads' (Kd.R_below HY.out hd.out.below)).2.2 (i : Int) (by omega) (by omega)
      rw [Int.toNat_natCast] at hx hy
      have hb100 := hf5.out
      obtain ⟨z, hz⟩ : ∃ z, z = rd p1 (i : Int) := ⟨_, rfl⟩
      rw [← hz] at hx hy
      clear hz
      go_wp2
      go_quiet (fail)
      go_wp2
      go_roundw
      case rel => exact ⟨i + 1, by simp, ⟨hlt⟩, ⟨hd.out.step _⟩⟩
      case measure => simp [intOf]; omega
    · go_wp2
      go_ret
      exact ⟨rfl, below_step HB7.out hd.out.below⟩
end Go.Proofs.Ytnjidfgjldkkcaa.Pure
