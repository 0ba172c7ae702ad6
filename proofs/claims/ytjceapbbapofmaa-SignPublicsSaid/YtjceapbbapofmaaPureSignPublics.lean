/- sign.Public answers as the reference does, for every number; no condition. -/
import Derived.Test.YtjceapbbapofmaaFnsSignPublics
import Derived.OpenShut
namespace Go.Proofs.Ytjceapbbapofmaa.Pure
open Go.RowKit Go.Proofs.Ytjceapbbapofmaa.PSignPublics Go.Proofs.YtjceapbbapofmaaW.PrintWords Go.Proofs.YtjceapbbapofmaaW.PrintLast
open Go.Proofs.Ytjceapbbapofmaa.FnsSignPublics Go.Proofs.Ytjceapbbapofmaa.SignMath

theorem publics (a0 : Int) : ∃ q, Ev (fun k => sign_Public.f k a0) q ∧ Ev (fun k => bagnallref_SignPublic.f k a0) q := by
  unfold sign_Public.f bagnallref_SignPublic.f sign_secret.f bagnallref_isSecret.f
  by_cases h0 : a0 ≥ 1
  · rw [if_pos h0, if_pos (show a0 > 0 by omega)]
    simp only [Option.bind_some]
    by_cases h1 : a0 < 3911
    · obtain ⟨x, rfl⟩ := Int.eq_ofNat_of_zero_le (show 0 ≤ a0 by omega)
      rw [decide_eq_true h1]
      exact ⟨(((pm 12 4 x 1 7823 : Nat) : Int), 0), Ev.pos rfl (Ev.bind (power_any 4 x 7823 (by omega) (by omega) (by omega) (by omega)) (Ev.now _)), Ev.pos rfl (Ev.bind (times_any 4 x (by omega) (by omega)) (Ev.now _))⟩
    · rw [decide_eq_false h1]
      exact ⟨(0, 2), Ev.neg (by simp) (Ev.now _), Ev.neg (by simp) (Ev.now _)⟩
  · rw [if_neg h0, if_neg (show ¬ a0 > 0 by omega)]
    simp only [Option.bind_some]
    exact ⟨(0, 2), Ev.neg (by simp) (Ev.now _), Ev.neg (by simp) (Ev.now _)⟩

theorem SignPublics : bagnalllaw_SignPublics.Pure := by
  intro a0 w0
  refine Ev.rounds ?_
  obtain ⟨q, hq, hq'⟩ := publics a0
  exact Ev.bind hq (Ev.bind hq' (Ev.pos rfl (Ev.to (Ev.now _) (by simp))))

end Go.Proofs.Ytjceapbbapofmaa.Pure
