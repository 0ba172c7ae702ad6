/- out.Play answers as the reference does, for all turns; no condition. -/
import Derived.Test.YtjceapbbapofmaaQOr
import Derived.Deep.RegionHeld3
namespace Go.Proofs.Ytjceapbbapofmaa.Pure
open Go.RowKit Go.Proofs.Ytjceapbbapofmaa.Q Go.Proofs.YtjceapbbapofmaaW.PrintWords Go.Proofs.YtjceapbbapofmaaW.PrintLast Go.Proofs.YtjceapbbapofmaaW.PrintMore Go.Proofs.Ytjceapbbapofmaa.Plain
/-- Turns that a memory bears. -/
def TurnsOk (l : List S72) : Prop := l.length ≤ 9223372036854775807 ∧ l.length * Try.prog.bytesOf 72 ≤ 140737488351232 ∧ ∀ a ∈ l, (Lit.int .i64 a.f0).wf = true ∧ a.f1.size ≤ 140737488351232 ∧ (Lit.int .i64 a.f2).wf = true
theorem TurnsOk.text {l : List S72} (h : TurnsOk l) : ∀ a ∈ l, a.f1.size ≤ 140737488351232 := fun a ha => (h.2.2 a ha).2.1
theorem turn_items {s : OSt} {k : Nat} (h : OInv s k) (t : S72) : (turnF s t).1.f2.length ≤ 60 := by
  have hi := h.items
  unfold turnF
  split
  · simp
  split
  · split
    · simp
    · unfold tickF
      split
      · simp
      split
      · simp only [List.length_take]; omega
      · simp only [List.length_take]; omega
  split
  · simp
  · simp
theorem turns_bound : ∀ (l : List S72) (s : OSt) (k : Nat), OInv s k → (∀ x ∈ turnsF l s, x.f2.length ≤ 60) ∧ (turnsF l s).length = l.length
  | [], s, k, h => ⟨fun x hx => by simp [turnsF] at hx, rfl⟩
  | t :: l, s, k, h => by
    obtain ⟨h1, h2⟩ := turns_bound l (turnF s t).2 (k + 1) (turnF_inv h t)
    refine ⟨fun x hx => ?_, by simp only [turnsF, List.length_cons, h2]⟩
    simp only [turnsF] at hx
    rcases List.mem_cons.1 hx with rfl | hx
    · exact turn_items h t
    · exact h1 x hx
theorem oplay_bound (l : List S72) : (∀ x ∈ (oplayF l).1, x.f2.length ≤ 60) ∧ (oplayF l).1.length ≤ 100 := by
  unfold oplayF
  by_cases h : 100 < l.length
  · rw [if_pos h]; simp
  · rw [if_neg h]
    obtain ⟨h1, h2⟩ := turns_bound l o0 0 o0_inv
    exact ⟨h1, by simp only [h2]; omega⟩
theorem wrap_up {i : Nat} (h : i ≤ 1000000) : wrap64 ((i : Int) + 1) = ((i + 1 : Nat) : Int) := by
  unfold wrap64
  omega
theorem sameT_l0 (l : List ByteArray) (hl : l.length ≤ 1000000) : ∀ (d i : Nat), i + d = l.length → ∃ n, bagnalllaw_sameTexts.l0 n l l (i : Int) = some true
  | 0, i, hi => ⟨1, by
      unfold bagnalllaw_sameTexts.l0
      rw [if_neg (by omega)]⟩
  | d + 1, i, hi => by
    obtain ⟨n, hn⟩ := sameT_l0 l hl d (i + 1) (by omega)
    refine ⟨n + 1, ?_⟩
    unfold bagnalllaw_sameTexts.l0
    rw [if_pos (by omega), if_pos (by omega), if_pos (by omega), if_pos rfl, wrap_up (by omega)]
    exact hn
theorem sameT_ev (l : List ByteArray) (hl : l.length ≤ 1000000) : ∃ n, bagnalllaw_sameTexts.f n l l = some true := by
  unfold bagnalllaw_sameTexts.f
  obtain ⟨n, hn⟩ := sameT_l0 l hl l.length 0 (by omega)
  exact ⟨n, by rw [if_pos rfl]; exact hn⟩
theorem sameTexts_walk (A B : Option Addr) (c c' : Nat) (x : List ByteArray) (w : World) (hx : Kd.C Kd.string w A x.length x) (hc : x.length ≤ c) (hy : Kd.C Kd.string w B x.length x) (hc' : x.length ≤ c') (hl : x.length ≤ 1000000) :
    Calls Try.prog 19 #[.slice A x.length c, .slice B x.length c'] w fun e w' => e = .returned (.bool true) ∧ Drawn0 w w' := by
  obtain ⟨n, hn⟩ := sameT_ev x hl
  exact bagnalllaw_sameTexts.calls n A c x B c' x true w hx hc hy hc' hn
theorem rd34 {l : List S34} {i : Nat} (hi : i < l.length) : rd_T34 l (i : Int) = l[i] := by
  unfold rd_T34
  rw [Int.toNat_natCast, List.getD_eq_getElem?_getD, List.getElem?_eq_getElem hi]; rfl
set_option maxRecDepth 100000 in
set_option maxHeartbeats 8000000 in
theorem walkOutPlays (W : World) (l : List S72) (A : Option Addr) (c : Nat) (hc : l.length ≤ c) (C : Kd.C k72 W A l.length l) (okA : TurnsOk l) :
    Calls Try.prog 5 #[.slice A l.length c] W fun e w' => e = .returned (.bool true) ∧ Below W.heap.size W w' := by
  have ok := okA.text
  have H1 := Aside0.mk (out_Play A c l W C hc ok)
  have H2 : Aside0 (∀ w, Below W.heap.size W w → Calls Try.prog 18 #[.slice A l.length c] w (OPlay w (oplayF l))) := ⟨fun w hw => ref_OutPlayed A c l w (Kd.C_below C hw) hc ok⟩
  have hbd := oplay_bound l
  obtain ⟨R, hR⟩ : ∃ R, R = oplayF l := ⟨_, rfl⟩
  rw [← hR] at H1 H2 hbd
  obtain ⟨told, code⟩ := R
  obtain ⟨hb1, hb3⟩ := hbd
  simp only at hb1 hb3
  have HB1' := Aside0.mk hb1
  clear hR C hc ok okA hb1
  go_enter Try.func5, Try.ntmps5
  go_wp2_with (first | (go_at_call 17; refine H1.out.mono ?_; rintro e w1 ⟨vc, rfl, ho1, hb1⟩; obtain ⟨Ac, cc, rfl⟩ := Kd.R_slice ho1; have HB1 := Aside0.mk hb1; have HO1 := Aside0.mk (Kd.R_reads' ho1); clear ho1 hb1) | (go_at_call 18; refine (H2.out _ HB1.out).mono ?_; rintro e w2 ⟨vc, rfl, ho1, hb2⟩; obtain ⟨Ae, ce, rfl⟩ := Kd.R_slice ho1; have HB2 := Aside0.mk (below_step HB1.out hb2); have HP1 := Aside0.mk (Kd.R_reads' ho1); have HO1' := Aside0.mk (Kd.C_below HO1.out.2.2 hb2); clear ho1 hb2))
  go_loopw [7] (fun v7 wr => ∃ i : Nat, v7 = .int .i64 i ∧ Aside0 (i ≤ told.length) ∧ Aside0 (Below w2.heap.size w2 wr)) (fun v7 _ => told.length - (intOf v7).toNat)
  case atStart => exact ⟨0, rfl, ⟨Nat.zero_le _⟩, ⟨by repeat (first | exact Below.refl _ _ | apply below_drew)⟩⟩
  case round =>
    obtain ⟨i, rfl, hi, hd⟩ := hrel
    have hil := hi.out
    by_cases hlt : i < told.length
    · obtain ⟨ad, A1, c1, rfl, x0, x1, x2, l1, g1⟩ := at_T34 (Kd.C_below HO1'.out hd.out) (i : Int) (by omega) (by omega)
      obtain ⟨ad', A2, c2, rfl, y0, y1, y2, l2, g2⟩ := at_T34 (Kd.C_below HP1.out.2.2 hd.out) (i : Int) (by omega) (by omega)
      rw [Int.toNat_natCast] at x0 x1 x2 y0 y1 y2
      obtain ⟨r, hr⟩ : ∃ r, r = rd_T34 told (i : Int) := ⟨_, rfl⟩
      rw [← hr] at x0 x1 x2 y0 y1 y2 l1 l2 g1 g2
      have hrl : r.f2.length ≤ 60 := by rw [hr, rd34 hlt]; exact HB1'.out _ (List.getElem_mem hlt)
      obtain ⟨k, b, rs⟩ := r
      simp only at x0 x1 x2 y0 y1 y2 l1 l2 g1 g2 hrl
      clear hr
      have G1 := Aside0.mk g1
      have G2 := Aside0.mk g2
      have hS : ∀ w' : World, Below wr.heap.size wr w' → (w'.cell? (ad.add (i * 3)) = some (.int .i64 k) ∧ w'.cell? ⟨(ad.add (i * 3)).block, (ad.add (i * 3)).off + 1, none⟩ = some (.int .i64 b) ∧ w'.cell? ⟨(ad.add (i * 3)).block, (ad.add (i * 3)).off + 2, none⟩ = some (.slice A1 rs.length c1) ∧ w'.cell? (ad'.add (i * 3)) = some (.int .i64 k) ∧ w'.cell? ⟨(ad'.add (i * 3)).block, (ad'.add (i * 3)).off + 1, none⟩ = some (.int .i64 b) ∧ w'.cell? ⟨(ad'.add (i * 3)).block, (ad'.add (i * 3)).off + 2, none⟩ = some (.slice A2 rs.length c2) ∧ Below wr.heap.size wr w') := fun w' h => ⟨(h.cell (World.block_lt_of_cell? wr _ x0)).trans x0, (h.cell (World.block_lt_of_cell? wr _ x1)).trans x1, (h.cell (World.block_lt_of_cell? wr _ x2)).trans x2, (h.cell (World.block_lt_of_cell? wr _ y0)).trans y0, (h.cell (World.block_lt_of_cell? wr _ y1)).trans y1, (h.cell (World.block_lt_of_cell? wr _ y2)).trans y2, h⟩
      clear g1 g2
      go_wp2
      go_region_held3 (fun w' => w'.cell? (ad.add (i * 3)) = some (.int .i64 k) ∧ w'.cell? ⟨(ad.add (i * 3)).block, (ad.add (i * 3)).off + 1, none⟩ = some (.int .i64 b) ∧ w'.cell? ⟨(ad.add (i * 3)).block, (ad.add (i * 3)).off + 2, none⟩ = some (.slice A1 rs.length c1) ∧ w'.cell? (ad'.add (i * 3)) = some (.int .i64 k) ∧ w'.cell? ⟨(ad'.add (i * 3)).block, (ad'.add (i * 3)).off + 1, none⟩ = some (.int .i64 b) ∧ w'.cell? ⟨(ad'.add (i * 3)).block, (ad'.add (i * 3)).off + 2, none⟩ = some (.slice A2 rs.length c2) ∧ Below wr.heap.size wr w') (first | assumption | exact hS _ (below_drew (Below.refl _ _))) (first | (go_at_call 19; refine (sameTexts_walk A1 A2 c1 c2 rs _ (Kd.C_below G1.out (And.right (And.right (And.right (And.right (And.right (And.right (by assumption))))))) ) l1 (Kd.C_below G2.out (And.right (And.right (And.right (And.right (And.right (And.right (by assumption))))))) ) l2 (by omega)).mono ?_; rintro e w4 ⟨rfl, hb⟩; have hS1 := hS _ (below_step (And.right (And.right (And.right (And.right (And.right (And.right (by assumption))))))) hb.below); clear hb))
      all_goals
        have hBW := Aside0.mk hS1.2.2.2.2.2.2
        go_wp2
        go_roundw
        case rel => exact ⟨i + 1, by simp, ⟨hlt⟩, ⟨below_step hd.out hBW.out⟩⟩
        case measure => simp [intOf]; omega
    · go_wp2
      go_ret
      exact ⟨rfl, below_step HB2.out hd.out⟩
end Go.Proofs.Ytjceapbbapofmaa.Pure
