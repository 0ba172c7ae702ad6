/- The reference's TrustPath: its closure, and lessPath. -/
import Derived.Test.YtjceapbbapofmaaQPa
namespace Go.Proofs.Ytjceapbbapofmaa.Q
open Go.RowKit Go.Maps Go.Proofs.Ytjceapbbapofmaa.PTrustPaths Go.Proofs.Ytjceapbbapofmaa.Trust Go.Proofs.Ytjceapbbapofmaa.SignMath Go.Proofs.YtjceapbbapofmaaW.PrintWords Go.Proofs.YtjceapbbapofmaaW.PrintLast Go.Proofs.YtjceapbbapofmaaW.PrintMore
set_option linter.unusedVariables false
set_option linter.unusedSimpArgs false
/-- The place of a key: the first. -/
def IsPlace (xs : List Int) (k : Int) (z : Int) : Prop := (∃ i : Nat, z = i ∧ xs[i]? = some k) ∨ (z = -1 ∧ k ∉ xs)
set_option maxRecDepth 100000 in
set_option maxHeartbeats 4000000 in
theorem place_walk (k : Int) (g B : Nat) (v : Value) (xs : List Int) (w : World) (hg : w.heap[g]? = some (.cells #[v] 24 (0, 0))) (ho : w.ownsRow B 3 1 v xs.length (intsV xs)) :
    Calls Try.prog 52 #[.int .i64 k, .pointer (some ⟨g, 0, none⟩)] w fun e w' => ∃ z, e = .returned (.int .i64 z) ∧ IsPlace xs k z ∧ w' = w := by
  have hcv : w.cell? ⟨g, 0, none⟩ = some v := (blk_cell hg 0).trans rfl
  have HO := Aside0.mk ho
  have hmx := own_max ho
  have HMX := Aside0.mk hmx
  obtain ⟨A, c, rfl⟩ := own_slice ho
  clear hg ho hmx
  go_enter Try.func52, Try.ntmps52
  go_wp2
  go_loopw [8] (fun v8 wr => ∃ i : Nat, v8 = .int .i64 i ∧ wr = w ∧ Aside0 (i ≤ xs.length) ∧ Aside0 (k ∉ xs.take i)) (fun v8 _ => xs.length - (intOf v8).toNat)
  case atStart => exact ⟨0, rfl, rfl, ⟨Nat.zero_le _⟩, ⟨by simp⟩⟩
  case round =>
    obtain ⟨i, rfl, rfl, hi, hk⟩ := hrel
    have hil := hi.out
    by_cases hlt : i < xs.length
    · have p1 : (0 : Int) ≤ (i : Int) := Int.natCast_nonneg i
      have q1 : (i : Int) < (xs.length : Int) := Int.ofNat_lt.2 hlt
      have hi1 : IntKind.i64.wrap ((i : Int) + 1) = (i : Int) + 1 := by have := HMX.out; unfold IntKind.wrap; simp [IntKind.signed, IntKind.bits]; omega
      obtain ⟨ad, rfl, hx⟩ := own_int HO.out hlt
      by_cases he : xs[i] = k
      · have hb : (xs[i] == k) = true := beq_iff_eq.mpr he
        have hm : Aside0 (xs[i]? = some k) := ⟨by rw [List.getElem?_eq_getElem hlt, he]⟩
        clear he
        go_wp2
        go_ret
        exact ⟨i, rfl, .inl ⟨i, rfl, hm.out⟩, rfl⟩
      · have hb : (xs[i] == k) = false := beq_eq_false_iff_ne.mpr he
        have hm : Aside0 (k ∉ xs.take (i + 1)) := ⟨mem_take_succ hlt hk.out he⟩
        clear he
        go_wp2
        go_roundw
        case rel => exact ⟨i + 1, by simp, by trivial, ⟨hlt⟩, hm⟩
        case measure => simp [intOf]; omega
    · obtain rfl : i = xs.length := by omega
      have hm : Aside0 (k ∉ xs) := ⟨by have h := hk.out; rwa [List.take_length] at h⟩
      go_wp2
      go_ret
      exact ⟨-1, rfl, .inr ⟨rfl, hm.out⟩, rfl⟩
theorem less_l0 (a b : List Int) (hab : a.length = b.length) (hl : a.length ≤ 9223372036854775806) : ∀ (m i : Nat), i + m = a.length → bagnallref_lessPath.l0 (m + 1) a b (a.length : Int) (i : Int) = some (lexlt (a.drop i) (b.drop i))
  | 0, i, h => by
    unfold bagnallref_lessPath.l0
    rw [if_neg (by omega), List.drop_of_length_le (by omega), List.drop_of_length_le (by omega)]
    rfl
  | m + 1, i, h => by
    unfold bagnallref_lessPath.l0
    have ha : i < a.length := by omega
    have hb : i < b.length := by omega
    rw [if_pos (by omega), if_pos (by omega), if_pos (by omega), if_pos (by omega), List.drop_eq_getElem_cons ha, List.drop_eq_getElem_cons hb]
    have ga : YtjceapbbapofmaaW.PrintWords.rd a ((i : Nat) : Int) = a[i] := by unfold YtjceapbbapofmaaW.PrintWords.rd; rw [Int.toNat_natCast, List.getD_eq_getElem?_getD, List.getElem?_eq_getElem ha]; rfl
    have gb : YtjceapbbapofmaaW.PrintWords.rd b ((i : Nat) : Int) = b[i] := by unfold YtjceapbbapofmaaW.PrintWords.rd; rw [Int.toNat_natCast, List.getD_eq_getElem?_getD, List.getElem?_eq_getElem hb]; rfl
    rw [ga, gb]
    unfold lexlt
    by_cases e : a[i] = b[i]
    · rw [if_pos e, if_pos e, wrap_in (by omega) (by omega)]
      exact less_l0 a b hab hl m (i + 1) (by omega)
    · rw [if_neg e, if_neg e]
theorem less_walk {w : World} {B B' : Nat} {u v : Value} {a b : List Int} (hab : a.length = b.length) (hl : a.length ≤ 9223372036854775806) (hu : w.ownsRow B 3 1 u a.length (intsV a)) (hv : w.ownsRow B' 3 1 v b.length (intsV b)) :
    Calls Try.prog 53 #[u, v] w fun e w' => e = .returned (.bool (lexlt a b)) ∧ Drawn0 w w' := by
  obtain ⟨A1, c1, rfl, hc1, hC1⟩ := Pure.own_ints hu
  obtain ⟨A2, c2, rfl, hc2, hC2⟩ := Pure.own_ints hv
  refine bagnallref_lessPath.calls (a.length + 1) A1 c1 a A2 c2 b (lexlt a b) w hC1 hc1 hC2 hc2 ?_
  unfold bagnallref_lessPath.f
  exact less_l0 a b hab hl a.length 0 (by omega)
end Go.Proofs.Ytjceapbbapofmaa.Q
