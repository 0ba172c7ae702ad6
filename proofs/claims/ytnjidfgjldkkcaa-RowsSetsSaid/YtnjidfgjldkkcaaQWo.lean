/- wal.Of, slices.ContainsFunc at batches, wal.Pack, walked. -/
import Derived.Test.YtnjidfgjldkkcaaQWf
import Derived.Test.YtnjidfgjldkkcaaQWt1
namespace Go.Proofs.Ytnjidfgjldkkcaa.Q
open Go.RowKit Go.Proofs.YtnjidfgjldkkcaaW.PrintWords Go.Proofs.YtnjidfgjldkkcaaW.PrintLast Go.Proofs.YtnjidfgjldkkcaaW.PrintMore
def packF : List (List Int) → List Int
  | [] => []
  | r :: t => frameF r t.isEmpty ++ packF t
theorem rdL1_at {l : List (List Int)} {i : Nat} (h : i < l.length) : rd_L4 l (i : Int) = l[i] := by
  simp [rd_L4, List.getD_eq_getElem?_getD, List.getElem?_eq_getElem h]
theorem packF_drop (l : List (List Int)) (i : Nat) (h : i < l.length) : packF (l.drop i) = frameF (rd_L4 l (i : Int)) ((i : Int) == (l.length : Int) - 1) ++ packF (l.drop (i + 1)) := by
  rw [List.drop_eq_getElem_cons h, rdL1_at h]
  show frameF l[i] (List.drop (i + 1) l).isEmpty ++ packF (List.drop (i + 1) l) = _
  congr 2
  rw [Bool.eq_iff_iff, List.isEmpty_iff_length_eq_zero, List.length_drop, beq_iff_eq]
  omega
theorem frameF_length (r : List Int) (b : Bool) : (frameF r b).length = r.length + 4 := by
  unfold frameF frameB; simp
set_option maxRecDepth 100000 in
set_option maxHeartbeats 4000000 in
theorem of_walk (A : Option Addr) (c : Nat) (l : List (List Int)) (w : World) (hr : Kd.C (Kd.slice 5 (Kd.int .u8)) w A l.length l) (hc : l.length ≤ c) (hl : l.length ≤ 100000) (hl2 : ∀ r ∈ l, r.length ≤ 100) :
    Calls Try.prog 54 #[.slice A l.length c] w fun e w' => ∃ v1, e = .returned v1 ∧ Kd.R (Kd.int .u8) 5 w' w.heap.size (fun _ => True) v1 (packF l) ∧ Below w.heap.size w w' := by
  have HR := Aside0.mk hr
  have HC := Aside0.mk hc
  have HL2 := Aside0.mk hl2
  clear hr hc hl2
  go_enter Try.func54, Try.ntmps54
  go_wp2
  go_loopw [3, 8] (fun v vi wr => ∃ (i : Nat) (out : List Int), vi = .int .i64 i ∧ Aside0 (i ≤ l.length) ∧ Aside0 (out ++ packF (l.drop i) = packF l) ∧ Aside0 (out.length ≤ i * 104) ∧ Aside0 (Kd.R (Kd.int .u8) 5 wr w.heap.size (fun _ => True) v out) ∧ Aside0 (Below w.heap.size w wr)) (fun _ vi _ => l.length - (intOf vi).toNat)
  case atStart => exact ⟨0, [], rfl, ⟨Nat.zero_le _⟩, ⟨rfl⟩, ⟨by simp⟩, ⟨Kd.R_nil _ _ _ _ _⟩, ⟨Below.refl _ _⟩⟩
  case round =>
    obtain ⟨i, out, rfl, hi, hs, hol, HO, HB⟩ := hrel
    have hi' := hi.out
    by_cases hlt : i < l.length
    · obtain ⟨ad, A0, c0, rfl, hx, hc0, hC0⟩ := at_L4 HR.out (i : Int) (by omega) (by omega)
      have hx' := (HB.out.cell (World.block_lt_of_cell? w _ hx)).trans hx
      have hst := Aside0.mk ((congrArg (out ++ ·) (packF_drop l i hlt).symm).trans hs.out)
      have hrl : Aside0 ((rd_L4 l (i : Int)).length ≤ 100) := ⟨by rw [rdL1_at hlt]; exact HL2.out _ (List.getElem_mem hlt)⟩
      clear hx hs
      generalize rd_L4 l (i : Int) = r at *
      simp only [Int.toNat_natCast] at hx'
      go_wp2_with (go_at_call 73; refine (frame_walk w _ out A0 c0 r ((i : Int) == (l.length : Int) - 1) wr HO.out HB.out hC0 hc0 (by have := hol.out; have := hrl.out; omega)).mono ?_; rintro e w1 ⟨v1, rfl, ho, hb⟩; have HO1 := Aside0.mk ho; have HB1 := Aside0.mk hb; clear ho hb)
      go_roundw
      case rel => exact ⟨i + 1, _, by go_num, ⟨by omega⟩, ⟨by rw [List.append_assoc]; exact hst.out⟩, ⟨by have := hol.out; have := hrl.out; rw [List.length_append, frameF_length]; omega⟩, HO1, HB1⟩
      case measure => simp [intOf]; omega
    · go_wp2
      go_ret
      have e := hs.out
      rw [List.drop_of_length_le (by omega)] at e
      rw [← e, packF, List.append_nil]
      exact ⟨_, rfl, HO.out, HB.out⟩

/-- The place of the first that p picks; -1: none. -/
def idxF {α : Type} (p : α → Bool) : List α → Int → Int
  | [], _ => -1
  | r :: t, i => if p r = true then i else idxF p t (i + 1)
theorem idxF_any {α : Type} (p : α → Bool) : ∀ (l : List α) (i : Int), 0 ≤ i → (decide (0 ≤ idxF p l i) = l.any p)
  | [], _, _ => by simp [idxF]
  | r :: t, i, h => by
    have ih := idxF_any p t (i + 1) (by omega)
    unfold idxF
    by_cases hp : p r = true
    · simp [hp, h]
    · simp [hp, ih]
def oddF (r : List Int) : Bool := !(decide (1 ≤ r.length) && decide (r.length ≤ 60))
theorem oddF_f (r : List Int) : wal_Pack_1.f r = some (oddF r) := by
  unfold wal_Pack_1.f wal_May.f oddF
  by_cases h : (r.length : Int) ≥ 1
  · rw [if_pos h, Option.bind_some]
    have h1 : 1 ≤ r.length := by omega
    by_cases h2 : r.length ≤ 60
    · have : (r.length : Int) ≤ 60 := by omega
      simp [h1, h2, this]
    · have : ¬ (r.length : Int) ≤ 60 := by omega
      simp [h1, h2, this]
  · rw [if_neg h, Option.bind_some]
    have h1 : ¬ 1 ≤ r.length := by omega
    simp [h1]
set_option maxRecDepth 100000 in
set_option maxHeartbeats 4000000 in
theorem indexB_walk (A : Option Addr) (c : Nat) (l : List (List Int)) (w : World) (hr : Kd.C (Kd.slice 5 (Kd.int .u8)) w A l.length l) (hc : l.length ≤ c) :
    Calls Try.prog 72 #[.slice A l.length c, .func (Fn.func 51) #[] #[]] w fun e w' => e = .returned (.int .i64 (idxF oddF l 0)) ∧ Below w.heap.size w w' := by
  have HR := Aside0.mk hr
  have HC := Aside0.mk hc
  have HM := Aside0.mk (Kd.C_max hr)
  clear hr hc
  go_enter Try.func72, Try.ntmps72
  go_wp2
  go_loopw [8] (fun vi wr => ∃ (i : Nat), vi = .int .i64 i ∧ Aside0 (i ≤ l.length) ∧ Aside0 (idxF oddF (l.drop i) i = idxF oddF l 0) ∧ Aside0 (Below w.heap.size w wr)) (fun vi _ => l.length - (intOf vi).toNat)
  case atStart => exact ⟨0, rfl, ⟨Nat.zero_le _⟩, ⟨rfl⟩, ⟨Below.refl _ _⟩⟩
  case round =>
    obtain ⟨i, rfl, hi, hs, HB⟩ := hrel
    have hi' := hi.out
    have hm' := HM.out
    by_cases hlt : i < l.length
    · obtain ⟨ad, A0, c0, rfl, hx, hc0, hC0⟩ := at_L4 (Kd.C_below HR.out HB.out) (i : Int) (by omega) (by omega)
      have hst : Aside0 ((if oddF (rd_L4 l (i : Int)) = true then (i : Int) else idxF oddF (l.drop (i + 1)) ((i : Int) + 1)) = idxF oddF l 0) := ⟨by
        have := hs.out
        rw [List.drop_eq_getElem_cons hlt] at this
        rw [rdL1_at hlt]
        exact this⟩
      clear hs
      generalize rd_L4 l (i : Int) = r at *
      simp only [Int.toNat_natCast] at hx
      have hC0' := Aside0.mk hC0
      have hc0' := Aside0.mk hc0
      clear hC0 hc0
      go_wp2_with (go_at_call 51; refine (wal_Pack_1.calls A0 c0 r (oddF r) _ hC0'.out hc0'.out (oddF_f r)).mono ?_; rintro e w1 ⟨rfl, hb⟩)
      · have HB1 := Aside0.mk (below_step HB.out hb.below)
        have hodd : oddF r = true := by assumption
        go_ret
        have e := hst.out
        rw [if_pos hodd] at e
        rw [← e]
        exact ⟨rfl, HB1.out⟩
      · have HB1 := Aside0.mk (below_step HB.out hb.below)
        have hodd : oddF r = false := by assumption
        have e : Aside0 (idxF oddF (l.drop (i + 1)) ((i : Int) + 1) = idxF oddF l 0) := ⟨by have := hst.out; rw [if_neg (by rw [hodd]; simp)] at this; exact this⟩
        go_roundw
        case rel => exact ⟨i + 1, by go_num, ⟨by omega⟩, e, HB1⟩
        case measure => simp [intOf]; omega
    · go_wp2
      go_ret
      have e := hs.out
      rw [List.drop_of_length_le (by omega)] at e
      rw [← e]
      exact ⟨rfl, HB.out⟩
set_option maxRecDepth 100000 in
set_option maxHeartbeats 4000000 in
theorem containsB_walk (A : Option Addr) (c : Nat) (l : List (List Int)) (w : World) (hr : Kd.C (Kd.slice 5 (Kd.int .u8)) w A l.length l) (hc : l.length ≤ c) :
    Calls Try.prog 53 #[.slice A l.length c, .func (Fn.func 51) #[] #[]] w fun e w' => e = .returned (.bool (l.any oddF)) ∧ Below w.heap.size w w' := by
  go_enter Try.func53, Try.ntmps53
  go_wp2_with (go_at_call 72; refine (indexB_walk A c l _ hr hc).mono ?_; rintro e w1 ⟨rfl, hb⟩)
  go_ret
  rw [← idxF_any oddF l 0 (Int.le_refl 0)]
  exact ⟨rfl, hb⟩
def packOdd (l : List (List Int)) : Bool := decide (l.length < 1) || decide (60 < l.length) || l.any oddF
def wal_Pack.f (l : List (List Int)) : Option (List Int × Int) := some (if packOdd l = true then ([], 1) else (packF l, 0))
set_option maxRecDepth 100000 in
set_option maxHeartbeats 4000000 in
theorem wal_Pack.calls (A0 : Option Addr) (c0 : Nat) (l0 : List (List Int)) (r1 : List Int) (r2 : Int) (w : World) (hr0 : Kd.C (Kd.slice 5 (Kd.int .u8)) w A0 l0.length l0) (hc0 : l0.length ≤ c0) (h : wal_Pack.f l0 = some (r1, r2)) :
    Calls Try.prog 27 #[.slice A0 l0.length c0] w fun e w' => ∃ v0_ : Value, e = .returned (.tuple #[v0_, .int .i64 r2]) ∧ Kd.R (Kd.int .u8) 5 w' w.heap.size (fun _ => True) v0_ r1 ∧ Below w.heap.size w w' := by
  replace h := Option.some.inj h
  have HR := Aside0.mk hr0
  have HC := Aside0.mk hc0
  clear hr0 hc0
  go_enter Try.func27, Try.ntmps27
  by_cases h1 : l0.length < 1
  · have ho : packOdd l0 = true := by unfold packOdd; rw [decide_eq_true h1]; rfl
    rw [if_pos ho] at h
    obtain ⟨rfl, rfl⟩ := Prod.mk.inj h
    clear h
    go_wp2
    go_ret2
    exact ⟨_, rfl, Kd.R_nil _ _ _ _ _, Below.refl _ _⟩
  by_cases h2 : 60 < l0.length
  · have ho : packOdd l0 = true := by unfold packOdd; rw [decide_eq_true h2]; simp
    rw [if_pos ho] at h
    obtain ⟨rfl, rfl⟩ := Prod.mk.inj h
    clear h
    go_wp2
    go_ret2
    exact ⟨_, rfl, Kd.R_nil _ _ _ _ _, Below.refl _ _⟩
  have hp : packOdd l0 = l0.any oddF := by unfold packOdd; rw [decide_eq_false h1, decide_eq_false h2]; simp
  rw [hp] at h
  by_cases h3 : l0.any oddF = true
  · rw [if_pos h3] at h
    obtain ⟨rfl, rfl⟩ := Prod.mk.inj h
    clear h
    go_wp2_with (go_at_call 53; refine (containsB_walk A0 c0 l0 _ HR.out HC.out).mono ?_; rintro e w1 ⟨rfl, hb⟩; rw [h3])
    go_ret2
    exact ⟨_, rfl, Kd.R_nil _ _ _ _ _, hb⟩
  · rw [if_neg h3] at h
    obtain ⟨rfl, rfl⟩ := Prod.mk.inj h
    clear h
    replace h3 : l0.any oddF = false := Bool.eq_false_iff.2 h3
    have hsz : Aside0 (∀ r ∈ l0, r.length ≤ 100) := ⟨fun r hr => by
      have := List.any_eq_false.1 h3 r hr
      unfold oddF at this
      simp at this
      omega⟩
    go_wp2_with (first | (go_at_call 53; refine (containsB_walk A0 c0 l0 _ HR.out HC.out).mono ?_; rintro e w1 ⟨rfl, hb⟩; rw [h3]; have HB := Aside0.mk hb; clear hb) | (go_at_call 54; refine (of_walk A0 c0 l0 _ (Kd.C_below HR.out HB.out) HC.out (by omega) hsz.out).mono ?_; rintro e w2 ⟨v1, rfl, ho, hb⟩; have HO := Aside0.mk (Kd.R_lower ho HB.out.size); have HB2 := Aside0.mk (below_step HB.out hb); clear ho hb))
    go_ret2
    exact ⟨_, rfl, HO.out, HB2.out⟩
end Go.Proofs.Ytnjidfgjldkkcaa.Q
