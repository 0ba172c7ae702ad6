/- trust.Reach, walked. -/
import Derived.Test.YtjceapbbapofmaaQWk
import Derived.Test.YtjceapbbapofmaaPTrustPathsx9
namespace Go.Proofs.Ytjceapbbapofmaa.Q
open Go.RowKit Go.Maps Go.Sort Go.Shelf Go.Proofs.Ytjceapbbapofmaa.PTrustPaths Go.Proofs.Ytjceapbbapofmaa.PgTrust Go.Proofs.Ytjceapbbapofmaa.Trust Go.Proofs.Ytjceapbbapofmaa.FnsTrustPaths Go.Proofs.Ytjceapbbapofmaa.SignMath Go.Proofs.YtjceapbbapofmaaW.PrintWords Go.Proofs.YtjceapbbapofmaaW.PrintLast Go.Proofs.YtjceapbbapofmaaW.PrintMore
set_option linter.unusedVariables false
set_option linter.unusedSimpArgs false
noncomputable def faultZ (root : Int) (l : List S52) : Int := if l.length > 60 then 1 else if isPub root then 0 else 2
theorem fault_walk (root : Int) (l : List S52) (A : Option Addr) (c : Nat) (hc : l.length ≤ c) (w : World) (hC : Kd.C k52 w A l.length l) :
    Calls Try.prog 49 #[.int .i64 root, .slice A l.length c] w fun e w' => e = .returned (.int .i64 (faultZ root l)) ∧ Drawn0 w w' := by
  have h : Ev (fun k => trust_fault.f k root l) (faultZ root l) := by
    unfold trust_fault.f faultZ
    by_cases h0 : l.length > 60
    · rw [if_pos h0]
      exact Ev.pos (by omega) (Ev.now _)
    · rw [if_neg h0]
      refine Ev.neg (by omega) (Ev.bind (key_any root) ?_)
      cases isPub root
      · exact Ev.neg (by simp) (Ev.now _)
      · exact Ev.pos rfl (Ev.now _)
  obtain ⟨k, hk⟩ := h.rounds
  exact trust_fault.calls k root A c l _ w hC hc hk
/-- What Reach tells. -/
noncomputable def reachL (root : Int) (l : List S52) : List Int := if faultZ root l = 0 then rounds (edges l) (edges l).length [root] else []
/-- What both hand back. -/
def ReachPost (w : World) (l : List S52) (root : Int) (e : Ending) (w' : World) : Prop := ∃ v, e = .returned (.tuple #[v, .int .i64 (faultZ root l)]) ∧ w'.ownsRow w.heap.size 3 1 v (reachL root l).length (intsV (reachL root l)) ∧ Below w.heap.size w w'
theorem fat_perm {w : World} {b n : Nat} {D : DataW Value} {F : List (Int × Int)} (h : FAt w b n D F) (hn : (keysF F).Nodup) : (keysF F).Perm (intKeys D) :=
  CollectedI.perm (left := fun _ => false) ⟨hn, fun x => by rw [show has D (.int .i64 x) = decide (x ∈ keysF F) from h.isIn x]; simp⟩ h.map K3 Try.underlying3 (fun _ => rfl)
theorem own_base {w : World} {B B' e s n : Nat} {v : Value} {xs : List Value} (h : w.ownsRow B e s v n xs) (hb : B' ≤ B) : w.ownsRow B' e s v n xs := by
  obtain ⟨hl, ⟨hv, h0⟩ | ⟨g, cap, cur, hv, hg, ht⟩⟩ := h
  · exact ⟨hl, .inl ⟨hv, h0⟩⟩
  · exact ⟨hl, .inr ⟨g, cap, cur, hv, Nat.le_trans hb hg, ht⟩⟩
set_option maxRecDepth 100000 in
set_option maxHeartbeats 4000000 in
theorem reach_walk (root : Int) (hroot : (Lit.int .i64 root).wf = true) (l : List S52) (hw : ∀ c ∈ l, (Lit.int .i64 c.f0).wf = true ∧ (Lit.int .i64 c.f1).wf = true) (A : Option Addr) (c : Nat) (hc : l.length ≤ c) (w : World) (hC : Kd.C k52 w A l.length l) :
    Calls Try.prog 35 #[.int .i64 root, .slice A l.length c] w (ReachPost w l root) := by
  have HF := Aside0.mk (fault_walk root l A c hc w hC)
  by_cases hz : faultZ root l = 0
  · have hl : l.length ≤ 60 := by
      unfold faultZ at hz
      by_cases h : l.length > 60
      · rw [if_pos h] at hz; cases hz
      · omega
    have HZ := Aside0.mk hz
    have HC := Aside0.mk hC
    rw [hz] at HF
    clear hz
    go_enter Try.func35, Try.ntmps35
    go_wp2_with (first | (go_at_call 49; (refine HF.out.mono ?_; rintro e w1 ⟨rfl, hd⟩; have HB1 := Aside0.mk hd.below; clear hd; have HWk := Aside0.mk (walk_walk root hroot l hl hw A c w1 (Kd.C_below HC.out HB1.out)))) | (go_at_call 50; refine HWk.out.mono ?_; rintro e w2 ⟨b, n, D, R, rfl, hF, hFin, hLev, hn, hB2⟩; have HF2 := Aside0.mk hF; have HLev := Aside0.mk hLev; have hn2 := Aside0.mk hn; have HB2 := Aside0.mk hB2; clear hF hFin hLev hn hB2) | (go_at_call 55; refine (keys_walk (some b) w2).mono ?_; rintro e w3 ⟨rfl, rfl⟩) | (go_at_call 54; refine (sorted_walk b n D (plainElem Try.prog 3) w2 HF2.out.map (by have := HF2.out.map.size_le; have := hn2.out; omega)).mono ?_; rintro e w4 ⟨v, ss, rfl, hp, ho, hnil, hb4⟩; have HP := Aside0.mk hp; have HO := Aside0.mk ho; have HB4 := Aside0.mk hb4; clear hp ho hnil hb4))
    go_ret2
    have hE : sortZ ss = reachL root l := by
      unfold reachL
      rw [if_pos HZ.out]
      exact reach_eq (fun k t he => mem_rfS.2 he) HLev.out (HP.out.trans (fat_perm HF2.out HLev.out.nodup).symm)
    have hln : ss.length = (reachL root l).length := by rw [← hE]; exact (sortZ_len ss).symm
    have h1 := HB1.out.size
    have h2 := HB2.out.size
    refine ⟨v, ?_, ?_, ?_⟩
    · rw [HZ.out]; rfl
    · have h := HO.out
      rw [hE, hln] at h
      exact own_base h (by omega)
    · exact below_step (below_alloc (below_step HB1.out HB2.out) _) HB4.out
  · have HZ : Aside0 ((faultZ root l != 0) = true) := ⟨bne_iff_ne.mpr hz⟩
    have hr : Aside0 (reachL root l = []) := ⟨by unfold reachL; rw [if_neg hz]⟩
    clear hz
    go_enter Try.func35, Try.ntmps35
    go_wp2_with (first | (go_at_call 49; refine HF.out.mono ?_; rintro e w1 ⟨rfl, hd⟩; have HB1 := Aside0.mk hd.below; clear hd; have HZ := HZ.out))
    go_ret2
    refine ⟨nilS, rfl, ?_, HB1.out⟩
    rw [hr.out]
    exact World.ownsRow_nil _ _ _ _
end Go.Proofs.Ytjceapbbapofmaa.Q
