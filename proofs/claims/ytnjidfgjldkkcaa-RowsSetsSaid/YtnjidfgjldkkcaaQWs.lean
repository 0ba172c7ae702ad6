/- wal.sums, wal.frame, walked. -/
import Derived.Test.YtnjidfgjldkkcaaQT
import Derived.LoopTactic
import Derived.Lib.Hide
import Derived.RowKit3
namespace Go.Proofs.Ytnjidfgjldkkcaa.Q
open Go.RowKit Go.Proofs.YtnjidfgjldkkcaaW.PrintWords Go.Proofs.YtnjidfgjldkkcaaW.PrintLast Go.Proofs.YtnjidfgjldkkcaaW.PrintMore
def sumA (a x : Int) : Int := Int.tmod (wrap64 (wrap64 (a + wrap64 x) + 1)) 251
def sumB (b a : Int) : Int := Int.tmod (wrap64 (b + a)) 251
def sumsF : Int → Int → List Int → Int × Int
  | a, b, [] => (a, b)
  | a, b, x :: l => sumsF (sumA a x) (sumB b (sumA a x)) l
theorem sumsF_drop (a b : Int) (l : List Int) (i : Nat) (h : i < l.length) : sumsF a b (l.drop i) = sumsF (sumA a (rd l (i : Int))) (sumB b (sumA a (rd l (i : Int)))) (l.drop (i + 1)) := by
  rw [List.drop_eq_getElem_cons h]
  have : rd l (i : Int) = l[i] := by simp [rd, List.getD_eq_getElem?_getD, List.getElem?_eq_getElem h]
  rw [this]; rfl
set_option maxRecDepth 100000 in
set_option maxHeartbeats 4000000 in
theorem sums_walk (A : Option Addr) (c : Nat) (l : List Int) (w : World) (hr : Kd.C (Kd.int .u8) w A l.length l) (hc : l.length ≤ c) (hl : l.length ≤ 1000000000) :
    Calls Try.prog 86 #[.slice A l.length c] w fun e w' => e = .returned (.agg #[.int .u8 ((sumsF 0 0 l).1 % 256), .int .u8 ((sumsF 0 0 l).2 % 256)]) ∧ Below w.heap.size w w' := by
  have HR := Aside0.mk hr
  have HC := Aside0.mk hc
  clear hr hc
  go_enter Try.func86, Try.ntmps86
  go_wp2
  go_loop [3, 4, 9] (fun va vb vi => ∃ (a b : Int) (i : Nat), va = .int .i64 a ∧ vb = .int .i64 b ∧ vi = .int .i64 i ∧ Aside0 (i ≤ l.length) ∧ Aside0 (sumsF a b (l.drop i) = sumsF 0 0 l)) (fun _ _ vi => l.length - (intOf vi).toNat)
  case atStart => exact ⟨0, 0, 0, rfl, rfl, rfl, ⟨Nat.zero_le _⟩, ⟨rfl⟩⟩
  case round =>
    obtain ⟨a, b, i, rfl, rfl, rfl, hi, hs⟩ := hrel
    have hi' := hi.out
    by_cases hlt : i < l.length
    · obtain ⟨ad, rfl, hc0⟩ := Kd.at_int (Kd.C_below HR.out (below_alloc (Below.refl w.heap.size w) (.cells #[.int .u8 0, .int .u8 0] 124))) (i : Int) (by omega) (by omega)
      have hst := Aside0.mk ((sumsF_drop a b l i hlt).symm.trans hs.out)
      generalize rd l (i : Int) = x at *
      simp only [Int.toNat_natCast] at hc0
      go_wp2
      go_round
      case rel => exact ⟨sumA a x, sumB b (sumA a x), i + 1, rfl, rfl, by go_num, ⟨by omega⟩, hst⟩
      case measure => simp [intOf]; omega
    · have hz : sumsF 0 0 l = (a, b) := by rw [← hs.out, List.drop_of_length_le (by omega)]; rfl
      clear hs
      go_wp2
      (try simp only [Exit.inBlock, Exit.then]); refine bodyPost_ret (v := .agg #[.int .u8 (a % 256), .int .u8 (b % 256)]) ?_ rfl ⟨?_, ?_⟩
      · simp [results, asAddr]
        go_simp
      · rfl
      · exact below_alloc (Below.refl _ _) _
end Go.Proofs.Ytnjidfgjldkkcaa.Q
