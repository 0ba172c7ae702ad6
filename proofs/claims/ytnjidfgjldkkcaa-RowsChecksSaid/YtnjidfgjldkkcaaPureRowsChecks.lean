/- rows.Check answers as the reference does, for every table; no condition. -/
import Derived.Test.YtnjidfgjldkkcaaPlRows
namespace Go.Proofs.Ytnjidfgjldkkcaa.Pure
open Go.RowKit Go.Proofs.Ytnjidfgjldkkcaa.Q Go.Proofs.YtnjidfgjldkkcaaW.PrintWords Go.Proofs.Ytnjidfgjldkkcaa.Plain

theorem walkRowsChecks (W : World) (l : List S69) (A : Option Addr) (c : Nat) (hc : l.length ≤ c) (C : Kd.C k69 W A l.length l)
    (_ : l.length ≤ 9223372036854775807 ∧ l.length * Try.prog.bytesOf 69 ≤ 140737488351232 ∧ ∀ x ∈ l, x.f0.size ≤ 140737488351232 ∧ x.f1.size ≤ 140737488351232) :
    Calls Try.prog 4 #[.slice A l.length c] W fun e w' => e = .returned (.bool true) ∧ Below W.heap.size W w' := by
  obtain ⟨k, h⟩ : ∃ k, bagnalllaw_RowsChecks.f k l = some true := Ev.rounds (by
    unfold bagnalllaw_RowsChecks.f
    exact Ev.bind (check_ev _) (Ev.bind (fault_ev _) (Ev.to (Ev.now _) (by simp))))
  exact bagnalllaw_RowsChecks.calls k A c _ true W C hc h

end Go.Proofs.Ytnjidfgjldkkcaa.Pure
