/- slices.BinarySearchFunc at rows and rows.place's own comparison, walked; rows.place. -/
import Derived.Test.YtnjidfgjldkkcaaQPc1
import Derived.LoopTactic
import Derived.Lib.Hide
import Derived.RowKit3
namespace Go.Proofs.Ytnjidfgjldkkcaa.Q
open Go.RowKit Go.Proofs.YtnjidfgjldkkcaaW.PrintWords Go.Proofs.YtnjidfgjldkkcaaW.PrintLast Go.Proofs.YtnjidfgjldkkcaaW.PrintMore
def cmpS (a k : ByteArray) : Int := if Op.bytesLess a.toList k.toList = true then -1 else if Op.bytesLess k.toList a.toList = true then 1 else 0
theorem place_1_f (a b k : ByteArray) : rows_place_1.f a b k = some (cmpS a k) := by
  unfold rows_place_1.f cmp_Compare_string.f cmp_isNaN_string.f cmpS
  simp only [bne_self_eq_false, Option.bind_some, Bool.false_eq_true, if_false]
  split
  · rfl
  · split <;> rfl
/-- The binary search: f rounds at most. -/
def bs (less : Nat → Bool) : Nat → Nat → Nat → Nat
  | 0, i, _ => i
  | f + 1, i, j => if i < j then (if less ((i + j) / 2) = true then bs less f ((i + j) / 2 + 1) j else bs less f i ((i + j) / 2)) else i
theorem bs_fuel (less : Nat → Bool) : ∀ (f g i j : Nat), j - i ≤ f → j - i ≤ g → bs less f i j = bs less g i j
  | 0, 0, _, _, _, _ => rfl
  | 0, g + 1, i, j, h, _ => by unfold bs; rw [if_neg (by omega)]
  | f + 1, 0, i, j, _, h => by unfold bs; rw [if_neg (by omega)]
  | f + 1, g + 1, i, j, h1, h2 => by
    unfold bs
    by_cases hij : i < j
    · rw [if_pos hij, if_pos hij, bs_fuel less f g _ j (by omega) (by omega), bs_fuel less f g i _ (by omega) (by omega)]
    · rw [if_neg hij, if_neg hij]
def lessAt (l : List S69) (k : ByteArray) (i : Nat) : Bool := decide (cmpS (l.getD i z69).f0 k < 0)
def placeI (l : List S69) (k : ByteArray) : Nat := bs (lessAt l k) l.length 0 l.length
def placeB (l : List S69) (k : ByteArray) : Bool := decide (placeI l k < l.length) && decide (cmpS (l.getD (placeI l k) z69).f0 k = 0)
set_option maxRecDepth 100000 in
set_option maxHeartbeats 4000000 in
theorem bsf_walk (A : Option Addr) (c : Nat) (l : List S69) (k : ByteArray) (w : World) (hr : Kd.C k69 w A l.length l) (hc : l.length ≤ c) (hl : l.length ≤ 1000000000) :
    Calls Try.prog 80 #[.slice A l.length c, .string k, .func (Fn.func 81) #[] #[]] w fun e w' => e = .returned (.tuple #[.int .i64 (placeI l k : Int), .bool (placeB l k)]) ∧ Below w.heap.size w w' := by
  have HR := Aside0.mk hr
  have HC := Aside0.mk hc
  clear hr hc
  go_enter Try.func80, Try.ntmps80
  go_wp2
  go_loopw [9, 10] (fun vi vj wr => ∃ i j : Nat, vi = .int .i64 i ∧ vj = .int .i64 j ∧ Aside0 (i ≤ j) ∧ Aside0 (j ≤ l.length) ∧ Aside0 (bs (lessAt l k) (j - i) i j = placeI l k) ∧ Aside0 (Below w.heap.size w wr)) (fun vi vj _ => (intOf vj).toNat - (intOf vi).toNat)
  case atStart => exact ⟨0, l.length, rfl, rfl, ⟨Nat.zero_le _⟩, ⟨Nat.le_refl _⟩, ⟨rfl⟩, ⟨Below.refl _ _⟩⟩
  case round =>
    obtain ⟨i, j, rfl, rfl, hij, hj, hbs, HB⟩ := hrel
    have hij' := hij.out
    have hj' := hj.out
    by_cases hlt : i < j
    · obtain ⟨h, hh⟩ : ∃ h, Aside0 (h = (i + j) / 2) := ⟨_, ⟨rfl⟩⟩
      have hdiv : ((i : Int) + (j : Int)) / 2 = (h : Int) := by have := hh.out; omega
      have hh1 : h < j := by have := hh.out; omega
      have hh2 : i ≤ h := by have := hh.out; omega
      obtain ⟨ad, rfl, hc0, hc1⟩ := at_T69 (Kd.C_below HR.out HB.out) (h : Int) (by omega) (by omega)
      have HL := Aside0.mk (show l.getD h z69 = rd_T69 l (h : Int) from rfl)
      generalize rd_T69 l (h : Int) = r at *
      obtain ⟨ra, rb⟩ := r
      simp only [Int.toNat_natCast] at hc0 hc1
      have hless : Aside0 (lessAt l k h = decide (cmpS ra k < 0)) := ⟨by unfold lessAt; rw [HL.out]⟩
      have hstep : Aside0 ((if lessAt l k h = true then bs (lessAt l k) (j - (h + 1)) (h + 1) j else bs (lessAt l k) (h - i) i h) = placeI l k) := ⟨by
        rw [← hbs.out]
        obtain ⟨f, hf⟩ : ∃ f, j - i = f + 1 := ⟨j - i - 1, by omega⟩
        rw [hf]
        conv => rhs; unfold bs
        rw [if_pos hlt, ← hh.out, bs_fuel _ (j - (h + 1)) f _ _ (by omega) (by omega), bs_fuel _ (h - i) f _ _ (by omega) (by omega)]⟩
      go_wp2_with (go_at_call 81; refine (rows_place_1.calls ra rb k (cmpS ra k) _ (place_1_f ra rb k)).mono ?_; rintro e w1 ⟨rfl, hb1⟩)
      · have HB1 := Aside0.mk (below_step HB.out hb1)
        have hneg : cmpS ra k < 0 := by assumption
        have hs : Aside0 (bs (lessAt l k) (j - (h + 1)) (h + 1) j = placeI l k) := ⟨by have := hstep.out; rw [hless.out, decide_eq_true hneg, if_pos rfl] at this; exact this⟩
        go_roundw
        case rel => exact ⟨h + 1, j, by go_num, rfl, ⟨by omega⟩, hj, hs, HB1⟩
        case measure => simp [intOf]; omega
      · have HB1 := Aside0.mk (below_step HB.out hb1)
        have hneg : 0 ≤ cmpS ra k := by assumption
        have hs : Aside0 (bs (lessAt l k) (h - i) i h = placeI l k) := ⟨by have := hstep.out; rw [hless.out, decide_eq_false (by omega), if_neg (by simp)] at this; exact this⟩
        go_roundw
        case rel => exact ⟨i, h, rfl, rfl, ⟨hh2⟩, ⟨by omega⟩, hs, HB1⟩
        case measure => simp [intOf]; omega
    · have hi : Aside0 (i = placeI l k) := ⟨by
        rw [← hbs.out, show j - i = 0 by omega]
        rfl⟩
      by_cases hlen : i < l.length
      · obtain ⟨ad, rfl, hc0, hc1⟩ := at_T69 (Kd.C_below HR.out HB.out) (i : Int) (by omega) (by omega)
        have HL := Aside0.mk (show l.getD i z69 = rd_T69 l (i : Int) from rfl)
        generalize rd_T69 l (i : Int) = r at *
        obtain ⟨ra, rb⟩ := r
        simp only [Int.toNat_natCast] at hc0 hc1
        have hB : Aside0 (placeB l k = (cmpS ra k == 0)) := ⟨by
          unfold placeB
          rw [← hi.out, HL.out, decide_eq_true hlen, Bool.true_and, Bool.eq_iff_iff, decide_eq_true_eq, beq_iff_eq]⟩
        clear HL hbs
        go_wp2_with (go_at_call 81; refine (rows_place_1.calls ra rb k (cmpS ra k) _ (place_1_f ra rb k)).mono ?_; rintro e w1 ⟨rfl, hb1⟩)
        have HB1 := Aside0.mk (below_step HB.out hb1)
        go_ret2
        refine ⟨?_, HB1.out⟩
        rw [hB.out, ← hi.out]
        rfl
      · have hB : Aside0 (placeB l k = false) := ⟨by
          unfold placeB
          rw [← hi.out, decide_eq_false hlen, Bool.false_and]⟩
        clear hbs
        go_wp2
        go_ret2
        refine ⟨?_, HB.out⟩
        rw [hB.out, ← hi.out]
        rfl

def rows_place.f (l : List S69) (k : ByteArray) : Option (Int × Bool) := if l.length ≤ 1000000000 then some ((placeI l k : Int), placeB l k) else none
theorem rows_place.calls (A0 : Option Addr) (c0 : Nat) (l0 : List S69) (a1 : ByteArray) (r1 : Int) (r2 : Bool) (w : World) (hr0 : Kd.C k69 w A0 l0.length l0) (hc0 : l0.length ≤ c0) (h : rows_place.f l0 a1 = some (r1, r2)) :
    Calls Try.prog 66 #[.slice A0 l0.length c0, .string a1] w fun e w' => e = .returned (.tuple #[.int .i64 r1, .bool r2]) ∧ Below w.heap.size w w' := by
  unfold rows_place.f at h
  split at h
  · rename_i hl
    obtain ⟨rfl, rfl⟩ := Prod.mk.inj (Option.some.inj h)
    go_enter Try.func66, Try.ntmps66
    go_wp2_with (go_at_call 80; refine (bsf_walk A0 c0 l0 a1 _ hr0 hc0 hl).mono ?_; rintro e w1 ⟨rfl, hb1⟩)
    go_ret2
    exact ⟨rfl, hb1⟩
  · cases h
end Go.Proofs.Ytnjidfgjldkkcaa.Q
