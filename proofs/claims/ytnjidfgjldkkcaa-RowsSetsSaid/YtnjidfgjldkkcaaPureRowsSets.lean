/- rows.Set answers as the reference does, for every table and all changes; no condition. -/
import Derived.Test.YtnjidfgjldkkcaaPlSet
import Derived.Test.YtnjidfgjldkkcaaQSt1
namespace Go.Proofs.Ytnjidfgjldkkcaa.Pure
open Go.RowKit Go.Proofs.Ytnjidfgjldkkcaa.Q Go.Proofs.YtnjidfgjldkkcaaW.PrintWords Go.Proofs.Ytnjidfgjldkkcaa.Plain
theorem walkRowsSets (W : World) (l : List S69) (A : Option Addr) (c : Nat) (hc : l.length ≤ c) (C : Kd.C k69 W A l.length l)
    (_ok : l.length ≤ 9223372036854775807 ∧ l.length * Try.prog.bytesOf 69 ≤ 140737488351232 ∧ ∀ x ∈ l, x.f0.size ≤ 140737488351232 ∧ x.f1.size ≤ 140737488351232)
    (m : List S69) (B : Option Addr) (d : Nat) (hd : m.length ≤ d) (D : Kd.C k69 W B m.length m)
    (_ok2 : m.length ≤ 9223372036854775807 ∧ m.length * Try.prog.bytesOf 69 ≤ 140737488351232 ∧ ∀ x ∈ m, x.f0.size ≤ 140737488351232 ∧ x.f1.size ≤ 140737488351232) :
    Calls Try.prog 7 #[.slice A l.length c, .slice B m.length d] W fun e w' => e = .returned (.bool true) ∧ Below W.heap.size W w' := by
  obtain ⟨n, hn⟩ : ∃ n, bagnalllaw_RowsSets.f n l m = some true := Ev.rounds (by
    unfold bagnalllaw_RowsSets.f
    exact Ev.bind (Ev.lift (r := setF l m) rfl) (Ev.bind (refRowsSet_ev l m) (Ev.bind (same_ev _ (by have := setF_len l m; omega)) (Ev.pos rfl (Ev.to (Ev.now _) (by simp))))))
  exact bagnalllaw_RowsSets.calls n A c l B d m true W C hc D hd hn
end Go.Proofs.Ytnjidfgjldkkcaa.Pure
