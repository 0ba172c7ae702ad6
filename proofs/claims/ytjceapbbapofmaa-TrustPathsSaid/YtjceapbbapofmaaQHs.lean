/- The reference's TrustReach: its closure. -/
import Derived.Test.YtjceapbbapofmaaQWk
namespace Go.Proofs.Ytjceapbbapofmaa.Q
open Go.RowKit Go.Maps Go.Sort Go.Shelf Go.Proofs.Ytjceapbbapofmaa.PTrustPaths Go.Proofs.YtjceapbbapofmaaW.PrintWords Go.Proofs.YtjceapbbapofmaaW.PrintLast Go.Proofs.YtjceapbbapofmaaW.PrintMore
set_option linter.unusedVariables false
set_option linter.unusedSimpArgs false
theorem mem_take_succ {xs : List Int} {i : Nat} (h : i < xs.length) {k : Int} (h1 : k ∉ xs.take i) (h2 : ¬ xs[i] = k) : k ∉ xs.take (i + 1) := by
  rw [List.take_succ_eq_append_getElem h, List.mem_append]
  rintro (h | h)
  · exact h1 h
  · simp only [List.mem_singleton] at h; exact h2 h.symm
set_option maxRecDepth 100000 in
set_option maxHeartbeats 4000000 in
theorem has_walk (k : Int) (g B : Nat) (v : Value) (xs : List Int) (w : World) (hg : w.heap[g]? = some (.cells #[v] 24 (0, 0))) (ho : w.ownsRow B 3 1 v xs.length (intsV xs)) :
    Calls Try.prog 56 #[.int .i64 k, .pointer (some ⟨g, 0, none⟩)] w fun e w' => e = .returned (.bool (decide (k ∈ xs))) ∧ w' = w := by
  have hcv : w.cell? ⟨g, 0, none⟩ = some v := (blk_cell hg 0).trans rfl
  have HO := Aside0.mk ho
  have hmx := own_max ho
  have HMX := Aside0.mk hmx
  obtain ⟨A, c, rfl⟩ := own_slice ho
  clear hg ho hmx
  go_enter Try.func56, Try.ntmps56
  go_wp2
  go_loopw [8] (fun v8 wr => ∃ i : Nat, v8 = .int .i64 i ∧ wr = w ∧ Aside0 (i ≤ xs.length) ∧ Aside0 (k ∉ xs.take i)) (fun v8 _ => xs.length - (intOf v8).toNat)
  case atStart => exact ⟨0, rfl, rfl, ⟨Nat.zero_le _⟩, ⟨by simp⟩⟩
  case round =>
    obtain ⟨i, rfl, rfl, hi, hk⟩ := hrel
    have hil := hi.out
    by_cases hlt : i < xs.length
    · have p1 : (0 : Int) ≤ (i : Int) := Int.natCast_nonneg i
      have q1 : (i : Int) < (xs.length : Int) := Int.ofNat_lt.2 hlt
      have hi1 : IntKind.i64.wrap ((i : Int) + 1) = (i : Int) + 1 := by have := HMX.out; unfold IntKind.wrap; simp [IntKind.signed, IntKind.bits]; omega
      obtain ⟨ad, rfl, hx⟩ := own_int HO.out hlt
      by_cases he : xs[i] = k
      · have hb : (xs[i] == k) = true := beq_iff_eq.mpr he
        have hm : Aside0 (k ∈ xs) := ⟨he ▸ List.getElem_mem hlt⟩
        clear he
        go_wp2
        go_ret
        exact ⟨by rw [decide_eq_true hm.out]; rfl, rfl⟩
      · have hb : (xs[i] == k) = false := beq_eq_false_iff_ne.mpr he
        have hm : Aside0 (k ∉ xs.take (i + 1)) := ⟨mem_take_succ hlt hk.out he⟩
        clear he
        go_wp2
        go_roundw
        case rel => exact ⟨i + 1, by simp, by trivial, ⟨hlt⟩, hm⟩
        case measure => simp [intOf]; omega
    · obtain rfl : i = xs.length := by omega
      have hm : Aside0 (k ∉ xs) := ⟨by have h := hk.out; rwa [List.take_length] at h⟩
      go_wp2
      go_ret
      exact ⟨by rw [decide_eq_false hm.out]; rfl, rfl⟩
end Go.Proofs.Ytjceapbbapofmaa.Q
