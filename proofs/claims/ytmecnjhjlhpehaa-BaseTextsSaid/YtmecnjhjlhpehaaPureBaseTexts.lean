/- base.Text answers as the reference does, for every text of bytes; no condition. -/
import Derived.Test.YtmecnjhjlhpehaaQBt1
import Derived.Test.YtmecnjhjlhpehaaQOf
import Derived.Test.YtmecnjhjlhpehaaPlText
import Derived.OpenShut
namespace Go.Proofs.Ytmecnjhjlhpehaa.Pure
open Go.RowKit Go.Proofs.Ytmecnjhjlhpehaa.Q Go.Proofs.Ytmecnjhjlhpehaa.Bits Go.Proofs.Ytmecnjhjlhpehaa.Plain Go.Proofs.YtmecnjhjlhpehaaW.PrintWords Go.Proofs.YtmecnjhjlhpehaaW.PrintLast Go.Proofs.YtmecnjhjlhpehaaW.PrintMore

theorem fin_run : ∀ (l : List Nat) (out : List Nat), (∀ x ∈ l, x < 256) → finE (l.foldl estep ⟨out, 0, 0⟩) = out ++ encV l
  | [], out, _ => by simp [finE, encV]
  | [a], out, _ => by simp [finE, encV, estep]
  | [a, b], out, h => by
    have := h a (by simp); have := h b (by simp)
    simp [finE, encV, estep]
    omega
  | a :: b :: c :: t, out, h => by
    have := h a (by simp); have := h b (by simp); have := h c (by simp)
    have e : estep (estep (estep ⟨out, 0, 0⟩ a) b) c = ⟨out ++ [a / 4, a % 4 * 16 + b / 16, b % 16 * 4 + c / 64, c % 64], 0, 0⟩ := by
      simp [estep]
      omega
    show finE (t.foldl estep (estep (estep (estep ⟨out, 0, 0⟩ a) b) c)) = _
    rw [e, fin_run t _ (fun x hx => h x (by simp [hx]))]
    simp [encV]

theorem BaseTexts (l : List Int) (hb : ∀ x ∈ l, 0 ≤ x ∧ x < 256) : ∃ k, bagnalllaw_BaseTexts.f k l = some true := by
  refine Ev.rounds ?_
  have el : nat (l.map Int.toNat) = l := by
    unfold nat
    rw [List.map_map]
    refine (List.map_congr_left (g := id) fun x hx => ?_).trans (List.map_id _)
    have := hb x hx
    show ((x.toNat : Nat) : Int) = x
    omega
  have hb' : ∀ x ∈ l.map Int.toNat, x < 256 := by
    intro x hx
    obtain ⟨y, hy, rfl⟩ := List.mem_map.1 hx
    have := hb y hy
    omega
  have h : ∃ q, base_Text.f l = some q ∧ Ev (fun k => bagnallref_BaseText.f k l) q := by
    by_cases hl : l.length ≤ 600
    · have h2 := text_ev (l.map Int.toNat) (by simpa using hl) hb'
      rw [el] at h2
      refine ⟨_, ?_, h2⟩
      unfold base_Text.f base_Of.f
      rw [if_neg (by omega), if_pos ⟨by omega, hb⟩, Option.bind_some]
      unfold runE
      rw [fin_run _ [] hb', List.nil_append]
    · refine ⟨((⟨#[]⟩ : ByteArray), 1), ?_, ?_⟩
      · unfold base_Text.f; rw [if_pos (by omega)]
      · unfold bagnallref_BaseText.f; exact Ev.pos (by omega) (Ev.now _)
  obtain ⟨q, h1, h2⟩ := h
  unfold bagnalllaw_BaseTexts.f
  exact Ev.bind (Ev.lift h1) (Ev.bind h2 (Ev.pos rfl (Ev.to (Ev.now _) (by simp))))

theorem walkBaseTexts (W : World) (l : List Int) (A : Option Addr) (c : Nat) (hc : l.length ≤ c) (C : (Kd.int .u8).C W A l.length l) (ok : l.length ≤ 9223372036854775807 ∧ l.length * Try.prog.bytesOf 5 ≤ 140737488351232 ∧ ∀ x ∈ l, (Lit.int .u8 x).wf = true) :
    Calls Try.prog 3 #[.slice A l.length c] W fun e w' => e = .returned (.bool true) ∧ Below W.heap.size W w' := by
  obtain ⟨k, h⟩ := BaseTexts l (fun x hx => by have := bounds_u8 (ok.2.2 x hx); omega)
  exact bagnalllaw_BaseTexts.calls k A c l true W C hc h
end Go.Proofs.Ytmecnjhjlhpehaa.Pure
