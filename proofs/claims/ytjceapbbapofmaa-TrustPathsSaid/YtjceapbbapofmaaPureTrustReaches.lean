/- trust.Reach answers as the reference does, for every root and every row of certs; no condition. -/
import Derived.Test.YtjceapbbapofmaaQRr
namespace Go.Proofs.Ytjceapbbapofmaa.Pure
open Go.RowKit Go.Maps Go.Proofs.Ytjceapbbapofmaa.Q Go.Proofs.Ytjceapbbapofmaa.PTrustPaths Go.Proofs.Ytjceapbbapofmaa.PgTrust Go.Proofs.Ytjceapbbapofmaa.Trust Go.Proofs.Ytjceapbbapofmaa.FnsTrustPaths Go.Proofs.Ytjceapbbapofmaa.SignMath Go.Proofs.YtjceapbbapofmaaW.PrintWords Go.Proofs.YtjceapbbapofmaaW.PrintLast Go.Proofs.YtjceapbbapofmaaW.PrintMore
set_option linter.unusedVariables false
set_option linter.unusedSimpArgs false
theorem same_l0 (l : List Int) (hl : l.length ≤ 9223372036854775806) : ∀ (n i : Nat), i + n = l.length → bagnalllaw_sameInts.l0 (n + 1) l l (i : Int) = some true
  | 0, i, h => by
    unfold bagnalllaw_sameInts.l0
    rw [if_neg (by omega)]
  | n + 1, i, h => by
    unfold bagnalllaw_sameInts.l0
    rw [if_pos (by omega), if_pos (by omega), if_pos (by omega), if_pos rfl, wrap_in (by omega) (by omega)]
    exact same_l0 l hl n (i + 1) (by omega)
theorem same_f (l : List Int) (hl : l.length ≤ 9223372036854775806) : bagnalllaw_sameInts.f (l.length + 1) l l = some true := by
  unfold bagnalllaw_sameInts.f
  rw [if_pos rfl]
  exact same_l0 l hl l.length 0 (by omega)
theorem reps_ints (R : Int → List Value → Prop) (hR : ∀ x, R x [.int .i64 x]) : ∀ l : List Int, Reps R 1 l.reverse (intsV l.reverse)
  | [] => Reps.none _ _
  | x :: l => by
    rw [List.reverse_cons, show intsV (l.reverse ++ [x]) = intsV l.reverse ++ [.int .i64 x] from by simp [intsV]]
    exact (reps_ints R hR l).snoc (hR x) rfl
theorem own_ints {w : World} {B : Nat} {v : Value} {l : List Int} (h : w.ownsRow B 3 1 v l.length (intsV l)) : ∃ A c, v = .slice A l.length c ∧ l.length ≤ c ∧ Kd.C (Kd.int .i64) w A l.length l := by
  obtain ⟨A, c, rfl, hr⟩ := own_reads_row h (by have := reps_ints ((Kd.int .i64).K w) (fun x => rfl) l.reverse; rwa [List.reverse_reverse] at this) rfl
  exact ⟨A, c, rfl, own_le h, hr⟩
theorem reachL_len (root : Int) (l : List S52) : (reachL root l).length ≤ 61 := by
  unfold reachL
  split
  · rename_i h
    have hl : l.length ≤ 60 := by
      unfold faultZ at h
      by_cases h0 : l.length > 60
      · rw [if_pos h0] at h; cases h
      · omega
    exact rnd_len (rounds_end (edges l).length [root] (rnd_start _ _)).1 hl
  · simp
set_option maxRecDepth 100000 in
theorem walkTrustReaches (W : World) (x0 : Int) (wf0 : (Lit.int .i64 x0).wf = true) (l : List S52) (A : Option Addr) (c : Nat) (hc : l.length ≤ c) (hC : Kd.C k52 W A l.length l)
    (ok : l.length ≤ 9223372036854775807 ∧ l.length * Try.prog.bytesOf 52 ≤ 140737488351232 ∧ ∀ x ∈ l, (Lit.int .i64 x.f0).wf = true ∧ (Lit.int .i64 x.f1).wf = true ∧ (Lit.int .i64 x.f2.f0).wf = true ∧ (Lit.int .i64 x.f2.f1).wf = true) :
    Calls Try.prog 13 #[.int .i64 x0, .slice A l.length c] W fun e w' => e = .returned (.bool true) ∧ Below W.heap.size W w' := by
  have H1 := Aside0.mk (reach_walk x0 wf0 l (fun c hc => ⟨(ok.2.2 c hc).1, (ok.2.2 c hc).2.1⟩) A c hc W hC)
  have H2 : Aside0 (∀ w1, Below W.heap.size W w1 → Calls Try.prog 36 #[.int .i64 x0, .slice A l.length c] w1 (ReachPost w1 l x0)) := ⟨fun w1 hb => refReach_walk x0 wf0 l A c w1 (Kd.C_below hC hb)⟩
  clear hC ok
  obtain ⟨L, hL⟩ : ∃ L, L = reachL x0 l := ⟨_, rfl⟩
  obtain ⟨z, hz⟩ : ∃ z, z = faultZ x0 l := ⟨_, rfl⟩
  have hlen : Aside0 (L.length ≤ 61) := ⟨hL ▸ reachL_len x0 l⟩
  unfold ReachPost at H1 H2
  rw [← hL, ← hz] at H1 H2
  clear hL hz
  go_enter Try.func13, Try.ntmps13
  go_wp2_with (first | (go_at_call 35; refine H1.out.mono ?_; rintro e w1 ⟨v1, rfl, ho1, hb1⟩; obtain ⟨A1, c1, rfl, hc1, hC1⟩ := own_ints ho1; have HB1 := Aside0.mk hb1; have HC1 := Aside0.mk hC1; clear ho1 hb1 hC1; clear H1) | (go_at_call 36; refine (H2.out w1 HB1.out).mono ?_; rintro e w2 ⟨v2, rfl, ho2, hb2⟩; obtain ⟨A2, c2, rfl, hc2, hC2⟩ := own_ints ho2; have HB2 := Aside0.mk hb2; have HC2 := Aside0.mk hC2; clear ho2 hb2 hC2) | (go_at_call 34; refine (bagnalllaw_sameInts.calls (L.length + 1) A1 c1 L A2 c2 L true w2 (Kd.C_below HC1.out HB2.out) hc1 HC2.out hc2 (same_f L (by have := hlen.out; omega))).mono ?_; rintro e w3 ⟨rfl, hd⟩; have HD := Aside0.mk hd.below; clear hd))
  go_ret
  exact ⟨by first | rfl | simp, below_step (below_step HB1.out HB2.out) HD.out⟩
end Go.Proofs.Ytjceapbbapofmaa.Pure
