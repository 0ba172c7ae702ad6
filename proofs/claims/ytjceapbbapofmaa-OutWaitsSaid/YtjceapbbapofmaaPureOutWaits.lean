/- out.Wait answers as the reference does, for every number of failures; no condition. -/
import Derived.Test.YtjceapbbapofmaaPOutWaitsx1
namespace Go.Proofs.Ytjceapbbapofmaa.Pure
open Go.RowKit Go.Proofs.Ytjceapbbapofmaa.POutWaits Go.Proofs.YtjceapbbapofmaaW.PrintWords Go.Proofs.YtjceapbbapofmaaW.PrintLast

theorem wait_none (a0 : Int) (h : a0 < 1) : out_Wait.f 1 a0 = some 0 := by
  unfold out_Wait.f
  simp only [out_Wait.l0]
  rw [if_neg (by omega)]
  rfl

theorem wait_one : out_Wait.f 3 1 = some 1 := by decide +kernel
theorem wait_two : out_Wait.f 4 2 = some 2 := by decide +kernel
theorem wait_three : out_Wait.f 5 3 = some 4 := by decide +kernel
theorem wait_four : out_Wait.f 6 4 = some 8 := by decide +kernel

theorem wait_more (a0 : Int) (h : 5 ≤ a0) : out_Wait.f 6 a0 = some 16 := by
  unfold out_Wait.f
  simp only [out_Wait.l0]
  have e0 : wrap64 (0 + 1) = 1 := by decide +kernel
  have e1 : wrap64 (1 + 1) = 2 := by decide +kernel
  have e2 : wrap64 (2 + 1) = 3 := by decide +kernel
  have e3 : wrap64 (3 + 1) = 4 := by decide +kernel
  have e4 : wrap64 (4 + 1) = 5 := by decide +kernel
  have m0 : mx 1 (wrap64 (2 * 0)) = 1 := by decide +kernel
  have m1 : mx 1 (wrap64 (2 * 1)) = 2 := by decide +kernel
  have m2 : mx 1 (wrap64 (2 * 2)) = 4 := by decide +kernel
  have m3 : mx 1 (wrap64 (2 * 4)) = 8 := by decide +kernel
  have m4 : mx 1 (wrap64 (2 * 8)) = 16 := by decide +kernel
  rw [if_pos (by omega), if_pos (by omega), e0, m0, if_pos (by omega), if_pos (by omega), e1, m1, if_pos (by omega), if_pos (by omega), e2, m2, if_pos (by omega), if_pos (by omega), e3, m3, if_pos (by omega), if_pos (by omega), e4, m4, if_neg (show ¬ (16 : Int) < 16 by omega)]
  split <;> rfl

theorem OutWaits : bagnalllaw_OutWaits.Pure := by
  intro a0 w0
  have : a0 < 1 ∨ a0 = 1 ∨ a0 = 2 ∨ a0 = 3 ∨ a0 = 4 ∨ 5 ≤ a0 := by omega
  rcases this with h | rfl | rfl | rfl | rfl | h
  · refine ⟨1, ?_⟩
    unfold bagnalllaw_OutWaits.f bagnallref_OutWait.f
    rw [wait_none a0 h, if_pos h]; rfl
  · exact ⟨3, by decide +kernel⟩
  · exact ⟨4, by decide +kernel⟩
  · exact ⟨5, by decide +kernel⟩
  · exact ⟨6, by decide +kernel⟩
  · refine ⟨6, ?_⟩
    unfold bagnalllaw_OutWaits.f bagnallref_OutWait.f
    rw [wait_more a0 h, if_neg (by omega), if_pos (by omega)]; rfl

end Go.Proofs.Ytjceapbbapofmaa.Pure
