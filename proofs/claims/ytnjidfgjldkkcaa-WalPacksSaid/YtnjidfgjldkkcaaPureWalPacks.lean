/- wal.Pack answers as the reference does, for every batch; no condition. -/
import Derived.Test.YtnjidfgjldkkcaaPlWal
namespace Go.Proofs.Ytnjidfgjldkkcaa.Pure
open Go.RowKit Go.Proofs.Ytnjidfgjldkkcaa.Q Go.Proofs.YtnjidfgjldkkcaaW.PrintWords Go.Proofs.Ytnjidfgjldkkcaa.Plain
theorem byte_wf {z : Int} (h : (Lit.int .u8 z).wf = true) : 0 ≤ z ∧ z ≤ 255 := by
  simp [Lit.wf, show IntKind.u8.min = 0 from rfl, show IntKind.u8.max = 255 from rfl] at h
  omega
theorem walkWalPacks (W : World) (l : List (List Int)) (A : Option Addr) (c : Nat) (hc : l.length ≤ c) (C : Kd.C (Kd.slice 5 (Kd.int .u8)) W A l.length l)
    (ok : l.length ≤ 9223372036854775807 ∧ l.length * Try.prog.bytesOf 36 ≤ 140737488351232 ∧ ∀ x ∈ l, x.length ≤ 9223372036854775807 ∧ x.length * Try.prog.bytesOf 5 ≤ 140737488351232 ∧ ∀ y ∈ x, (Lit.int .u8 y).wf = true) :
    Calls Try.prog 8 #[.slice A l.length c] W fun e w' => e = .returned (.bool true) ∧ Below W.heap.size W w' := by
  obtain ⟨n, hn⟩ : ∃ n, bagnalllaw_WalPacks.f n l = some true := Ev.rounds (by
    unfold bagnalllaw_WalPacks.f
    have h2 := refPack_ev l (fun r hr x hx => byte_wf ((ok.2.2 r hr).2.2 x hx))
    have h3 : (if packOdd l = true then (([] : List Int), (1 : Int)) else (packF l, 0)).1.length ≤ 1000000 := by
      by_cases h : packOdd l = true
      · rw [if_pos h]; simp
      · rw [if_neg h]
        unfold packOdd at h
        have h' : ¬ 60 < l.length := fun e => h (by rw [decide_eq_true e]; simp)
        have ha : l.any oddF = false := Bool.eq_false_iff.2 fun e => h (by rw [e]; simp)
        have := packF_len l (fun r hr => by
          have := List.any_eq_false.1 ha r hr
          unfold oddF at this
          simp at this
          omega)
        show (packF l).length ≤ _
        omega
    exact Ev.bind (Ev.lift rfl) (Ev.bind h2 (Ev.bind (sameB_ev _ h3) (Ev.pos rfl (Ev.to (Ev.now _) (by simp))))))
  exact bagnalllaw_WalPacks.calls n A c l true W C hc hn
end Go.Proofs.Ytnjidfgjldkkcaa.Pure
