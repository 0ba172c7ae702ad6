/- sign.Make answers as the reference does, for every pair of numbers and every text; no condition. -/
import Derived.Test.YtjceapbbapofmaaFnsSignMakes
import Derived.OpenShut
namespace Go.Proofs.Ytjceapbbapofmaa.Pure
open Go.RowKit Go.Proofs.Ytjceapbbapofmaa.PSignMakes Go.Proofs.YtjceapbbapofmaaW.PrintWords Go.Proofs.YtjceapbbapofmaaW.PrintLast
open Go.Proofs.Ytjceapbbapofmaa.FnsSignMakes Go.Proofs.Ytjceapbbapofmaa.SignMath

/-- A secret: from 1 to 3910. -/
def secB (a : Int) : Bool := decide (1 ≤ a) && decide (a < 3911)
theorem sec_f (a : Int) : sign_secret.f a = some (secB a) := by
  unfold sign_secret.f secB
  by_cases h : a ≥ 1
  · rw [if_pos h, decide_eq_true (show 1 ≤ a from h)]; rfl
  · rw [if_neg h, decide_eq_false (show ¬ 1 ≤ a from h)]; rfl
theorem refSec_f (a : Int) : bagnallref_isSecret.f a = some (secB a) := by
  unfold bagnallref_isSecret.f secB
  by_cases h : a > 0
  · rw [if_pos h, decide_eq_true (show 1 ≤ a by omega)]; rfl
  · rw [if_neg h, decide_eq_false (show ¬ 1 ≤ a by omega)]; rfl
theorem secB_bd {a : Int} (h : secB a = true) : ∃ x : Nat, a = (x : Int) ∧ 1 ≤ x ∧ x < 3911 := by
  unfold secB at h
  simp only [Bool.and_eq_true, decide_eq_true_eq] at h
  exact ⟨a.toNat, by omega, by omega, by omega⟩

theorem makes (a0 a1 : Int) (l : List Int) (ok : okBytes l) : ∃ q, Ev (fun k => sign_Make.f k a0 a1 l) q ∧ Ev (fun k => bagnallref_SignMake.f k a0 a1 l) q := by
  unfold sign_Make.f bagnallref_SignMake.f
  simp only [sec_f, refSec_f, Option.bind_some]
  cases h0 : secB a0
  · exact ⟨(0, 0, 2), Ev.use0 (fun k => by simp [sign_Make.j0]), Ev.use0 (fun k => by simp [bagnallref_SignMake.j0])⟩
  cases h1 : secB a1
  · exact ⟨(0, 0, 2), Ev.use0 (fun k => by simp [sign_Make.j0]), Ev.use0 (fun k => by simp [bagnallref_SignMake.j0])⟩
  obtain ⟨x, rfl, hx1, hx2⟩ := secB_bd h0
  obtain ⟨y, rfl, hy1, hy2⟩ := secB_bd h1
  by_cases h2 : (l.length : Int) > 600
  · exact ⟨(0, 0, 1), Ev.use0 (fun k => by simp [sign_Make.j0, h2]), Ev.use0 (fun k => by simp [bagnallref_SignMake.j0, h2])⟩
  have hr : pm 12 4 y 1 7823 < 7823 := pm_lt _ _ _ _ _ (by omega)
  refine ⟨(((pm 12 4 y 1 7823 : Nat) : Int), Int.tmod (wrap64 ((y : Int) + wrap64 ((x : Int) * ((hsh (pm 12 4 y 1 7823 % 3911) l : Nat) : Int)))) 3911, 0), ?_, ?_⟩
  · exact Ev.use2 (power_any 4 y 7823 (by omega) (by omega) (by omega) (by omega)) (hash_any (pm 12 4 y 1 7823) l ok (by omega)) (fun k e1 e2 => by replace e1 : sign_power.f k 4 (y : Int) 7823 = _ := e1; simp [sign_Make.j0, h2, e1, e2])
  · exact Ev.use2 (times_any 4 y (by omega) (by omega)) (refHash_ok _ hr l ok (by omega)) (fun k e1 e2 => by replace e1 : bagnallref_times.f k 4 (y : Int) = _ := e1; simp [bagnallref_SignMake.j0, h2, e1, e2])

theorem SignMakes : bagnalllaw_SignMakes.Pure := by
  intro a0 a1 l2 w0 w1 hl hr hb
  refine Ev.rounds ?_
  obtain ⟨q, hq, hq'⟩ := makes a0 a1 l2 (fun x hx => bounds_u8 (hb x hx))
  exact Ev.bind hq (Ev.bind hq' (Ev.pos (by simp) (Ev.to (Ev.now _) (by simp))))

end Go.Proofs.Ytjceapbbapofmaa.Pure
