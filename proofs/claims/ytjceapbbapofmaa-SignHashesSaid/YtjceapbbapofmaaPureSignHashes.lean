/- sign.Hash answers as the reference does, for every number and every text; no condition. -/
import Derived.Test.YtjceapbbapofmaaFnsSignHashes
import Derived.OpenShut
namespace Go.Proofs.Ytjceapbbapofmaa.Pure
open Go.RowKit Go.Proofs.Ytjceapbbapofmaa.PSignHashes Go.Proofs.YtjceapbbapofmaaW.PrintWords Go.Proofs.YtjceapbbapofmaaW.PrintLast
open Go.Proofs.Ytjceapbbapofmaa.FnsSignHashes Go.Proofs.Ytjceapbbapofmaa.SignMath

theorem SignHashes : bagnalllaw_SignHashes.Pure := by
  intro a0 l1 w0 hl hr hb
  have ok : okBytes l1 := fun x hx => bounds_u8 (hb x hx)
  refine Ev.rounds ?_
  by_cases h : ∃ q, Ev (fun k => sign_Hash.f k a0 l1) q ∧ Ev (fun k => bagnallref_SignHash.f k a0 l1) q
  · obtain ⟨q, hq, hq'⟩ := h
    refine Ev.bind hq (Ev.bind hq' ?_)
    refine Ev.pos rfl (Ev.to (Ev.now _) (by simp))
  · refine absurd ?_ h
    unfold sign_Hash.f bagnallref_SignHash.f
    by_cases h0 : a0 < 0
    · exact ⟨(0, 2), Ev.pos h0 (Ev.step (f := fun _ => some (0, 2)) (fun k => by simp only [sign_Hash.j0, if_true]) (Ev.now _)), Ev.pos h0 (Ev.step (f := fun _ => some (0, 2)) (fun k => by simp only [bagnallref_SignHash.j0, if_true]) (Ev.now _))⟩
    · by_cases h1 : a0 ≥ 7823
      · refine ⟨(0, 2), Ev.neg h0 ?_, Ev.neg h0 ?_⟩
        · rw [decide_eq_true h1]
          exact Ev.step (f := fun _ => some (0, 2)) (fun k => by simp only [sign_Hash.j0, if_true]) (Ev.now _)
        · rw [decide_eq_true (show a0 > 7822 by omega)]
          exact Ev.step (f := fun _ => some (0, 2)) (fun k => by simp only [bagnallref_SignHash.j0, if_true]) (Ev.now _)
      · obtain ⟨r, rfl⟩ := Int.eq_ofNat_of_zero_le (show 0 ≤ a0 by omega)
        by_cases h2 : (l1.length : Int) > 600
        · refine ⟨(0, 1), Ev.neg h0 (Ev.step (fun k => rfl) ?_), Ev.neg h0 (Ev.step (fun k => rfl) ?_)⟩
          · exact Ev.neg (by simpa using h1) (Ev.pos h2 (Ev.now _))
          · exact Ev.neg (by simp; omega) (Ev.pos h2 (Ev.now _))
        · refine ⟨(((hsh (r % 3911) l1 : Nat) : Int), 0), Ev.neg h0 (Ev.step (fun k => rfl) ?_), ?_⟩
          · exact Ev.neg (by simpa using h1) (Ev.neg h2 (Ev.bind (hash_any r l1 ok (by omega)) (Ev.now _)))
          · have := refHash_ok r (by omega) l1 ok (by omega)
            unfold bagnallref_SignHash.f at this
            exact this

end Go.Proofs.Ytjceapbbapofmaa.Pure
