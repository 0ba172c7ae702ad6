/- slices.ContainsFunc at rows, rows.Fault, rows.Set, walked. -/
import Derived.Test.YtnjidfgjldkkcaaQCh
import Derived.Test.YtnjidfgjldkkcaaQWo
import Derived.Test.YtnjidfgjldkkcaaQRa1
import Derived.Test.YtnjidfgjldkkcaaPlRows
namespace Go.Proofs.Ytnjidfgjldkkcaa.Q
open Go.RowKit Go.Proofs.YtnjidfgjldkkcaaW.PrintWords Go.Proofs.YtnjidfgjldkkcaaW.PrintLast Go.Proofs.YtnjidfgjldkkcaaW.PrintMore Go.Proofs.Ytnjidfgjldkkcaa.Plain
def oddR (r : S69) : Bool := decide (r.f0.size < 1 ∨ 20 < r.f0.size ∨ 20 < r.f1.size)
theorem oddR_f (r : S69) : rows_Fault_1.f r.f0 r.f1 = some (oddR r) := by
  unfold rows_Fault_1.f oddR
  rw [key_f, Option.bind_some]
  by_cases h : r.f0.size < 1 ∨ 20 < r.f0.size
  · rw [if_neg (by rw [decide_eq_false (fun hn => hn h)]; simp), decide_eq_true (show r.f0.size < 1 ∨ 20 < r.f0.size ∨ 20 < r.f1.size by omega)]
  · rw [if_pos (decide_eq_true h)]
    congr 1
    by_cases h2 : 20 < r.f1.size
    · rw [decide_eq_true (by omega), decide_eq_true (by omega)]
    · rw [decide_eq_false (by omega), decide_eq_false (by omega)]
set_option maxRecDepth 100000 in
set_option maxHeartbeats 4000000 in
theorem indexR_walk (A : Option Addr) (c : Nat) (l : List S69) (w : World) (hr : Kd.C k69 w A l.length l) (hc : l.length ≤ c) :
    Calls Try.prog 83 #[.slice A l.length c, .func (Fn.func 68) #[] #[]] w fun e w' => e = .returned (.int .i64 (idxF oddR l 0)) ∧ Below w.heap.size w w' := by
  have HR := Aside0.mk hr
  have HC := Aside0.mk hc
  have HM := Aside0.mk (Kd.C_max hr)
  clear hr hc
  go_enter Try.func83, Try.ntmps83
  go_wp2
  go_loopw [8] (fun vi wr => ∃ (i : Nat), vi = .int .i64 i ∧ Aside0 (i ≤ l.length) ∧ Aside0 (idxF oddR (l.drop i) i = idxF oddR l 0) ∧ Aside0 (Below w.heap.size w wr)) (fun vi _ => l.length - (intOf vi).toNat)
  case atStart => exact ⟨0, rfl, ⟨Nat.zero_le _⟩, ⟨rfl⟩, ⟨Below.refl _ _⟩⟩
  case round =>
    obtain ⟨i, rfl, hi, hs, HB⟩ := hrel
    have hi' := hi.out
    have hm' := HM.out
    by_cases hlt : i < l.length
    · obtain ⟨ad, rfl, x0, x1⟩ := at_T69 (Kd.C_below HR.out HB.out) (i : Int) (by omega) (by omega)
      have hst : Aside0 ((if oddR (rd_T69 l (i : Int)) = true then (i : Int) else idxF oddR (l.drop (i + 1)) ((i : Int) + 1)) = idxF oddR l 0) := ⟨by
        have := hs.out
        rw [List.drop_eq_getElem_cons hlt] at this
        rw [rd69 hlt]
        exact this⟩
      clear hs
      obtain ⟨r, hr⟩ : ∃ r, r = rd_T69 l (i : Int) := ⟨_, rfl⟩
      rw [← hr] at hst x0 x1
      clear hr
      rw [Int.toNat_natCast] at x0 x1
      obtain ⟨k, u⟩ := r
      obtain ⟨b, hb⟩ : ∃ b, Aside0 (b = oddR ⟨k, u⟩) := ⟨_, ⟨rfl⟩⟩
      rw [← hb.out] at hst
      cases b
      · have e : Aside0 (idxF oddR (l.drop (i + 1)) ((i : Int) + 1) = idxF oddR l 0) := ⟨by have := hst.out; rw [if_neg (by simp)] at this; exact this⟩
        go_wp2_with (go_at_call 68; refine (rows_Fault_1.calls k u false _ (by rw [hb.out]; exact oddR_f ⟨k, u⟩)).mono ?_; rintro e w1 ⟨rfl, hbl⟩; have HB1 := Aside0.mk (below_step HB.out hbl); clear hbl)
        go_roundw
        case rel => exact ⟨i + 1, by go_num, ⟨by omega⟩, e, HB1⟩
        case measure => simp [intOf]; omega
      · have e : Aside0 ((i : Int) = idxF oddR l 0) := ⟨by have := hst.out; rw [if_pos rfl] at this; exact this⟩
        go_wp2_with (go_at_call 68; refine (rows_Fault_1.calls k u true _ (by rw [hb.out]; exact oddR_f ⟨k, u⟩)).mono ?_; rintro e w1 ⟨rfl, hbl⟩; have HB1 := Aside0.mk (below_step HB.out hbl); clear hbl)
        go_ret
        rw [← e.out]
        exact ⟨rfl, HB1.out⟩
    · go_wp2
      go_ret
      have e := hs.out
      rw [List.drop_of_length_le (by omega)] at e
      rw [← e]
      exact ⟨rfl, HB.out⟩
set_option maxRecDepth 100000 in
set_option maxHeartbeats 4000000 in
theorem containsR_walk (A : Option Addr) (c : Nat) (l : List S69) (w : World) (hr : Kd.C k69 w A l.length l) (hc : l.length ≤ c) :
    Calls Try.prog 69 #[.slice A l.length c, .func (Fn.func 68) #[] #[]] w fun e w' => e = .returned (.bool (l.any oddR)) ∧ Below w.heap.size w w' := by
  go_enter Try.func69, Try.ntmps69
  go_wp2_with (go_at_call 83; refine (indexR_walk A c l _ hr hc).mono ?_; rintro e w1 ⟨rfl, hb⟩)
  go_ret
  rw [← idxF_any oddR l 0 (Int.le_refl 0)]
  exact ⟨rfl, hb⟩
def faultF (l cs : List S69) : Int := if 60 < cs.length then 1 else if cs.any oddR = true then 1 else if 40 < (changedF l cs).length then 10 else 0
theorem changedF_len (l cs : List S69) : (changedF l cs).length ≤ l.length + cs.length := by
  induction cs generalizing l with
  | nil => simp [changedF]
  | cons c t ih =>
    have := ih (stepR l c)
    have h2 := stepR_len l c
    simp only [changedF, List.foldl_cons, List.length_cons] at this ⊢
    omega
set_option maxRecDepth 100000 in
set_option maxHeartbeats 4000000 in
theorem fault_walk (A B : Option Addr) (c d : Nat) (l cs : List S69) (w : World) (hr : Kd.C k69 w A l.length l) (hc : l.length ≤ c) (hq : Kd.C k69 w B cs.length cs) (hd : cs.length ≤ d) (hl : l.length ≤ 800000) :
    Calls Try.prog 48 #[.slice A l.length c, .slice B cs.length d] w fun e w' => e = .returned (.int .i64 (faultF l cs)) ∧ Below w.heap.size w w' := by
  have HR := Aside0.mk hr
  have HC := Aside0.mk hc
  have HQ := Aside0.mk hq
  have HD := Aside0.mk hd
  clear hr hc hq hd
  by_cases h1 : 60 < cs.length
  · have e : Aside0 (faultF l cs = 1) := ⟨by unfold faultF; rw [if_pos h1]⟩
    go_enter Try.func48, Try.ntmps48
    go_wp2
    go_ret
    rw [e.out]
    exact ⟨rfl, Below.refl _ _⟩
  have hcalls : Aside0 (∀ W, Below w.heap.size w W → Calls Try.prog 69 #[.slice B cs.length d, .func (Fn.func 68) #[] #[]] W fun e w' => e = .returned (.bool (cs.any oddR)) ∧ Below W.heap.size W w') := ⟨fun W hW => containsR_walk B d cs W (Kd.C_below HQ.out hW) HD.out⟩
  by_cases h2 : cs.any oddR = true
  · have e : Aside0 (faultF l cs = 1) := ⟨by unfold faultF; rw [if_neg h1, if_pos h2]⟩
    rw [h2] at hcalls
    clear h2
    go_enter Try.func48, Try.ntmps48
    go_wp2_with (go_at_call 69; refine (hcalls.out _ (Below.refl _ _)).mono ?_; rintro e w1 ⟨rfl, hb⟩; have HB1 := Aside0.mk hb; clear hb)
    go_ret
    rw [e.out]
    exact ⟨rfl, HB1.out⟩
  have h2' : cs.any oddR = false := Bool.eq_false_iff.2 h2
  rw [h2'] at hcalls
  obtain ⟨ys, hys⟩ : ∃ ys, Aside0 (ys = changedF l cs) := ⟨_, ⟨rfl⟩⟩
  have hch : Aside0 (∀ W, Below w.heap.size w W → Calls Try.prog 49 #[.slice A l.length c, .slice B cs.length d] W fun e w' => ∃ v', e = .returned v' ∧ k69.R 69 w' W.heap.size (fun _ => True) v' ys ∧ Below W.heap.size W w') := ⟨fun W hW => hys.out ▸ changed_walk A B c d l cs W (Kd.C_below HR.out hW) HC.out (Kd.C_below HQ.out hW) HD.out (by omega)⟩
  have hyl : ys.length ≤ 900000 := by have := changedF_len l cs; rw [← hys.out] at this; omega
  by_cases h3 : 40 < ys.length
  · have e : Aside0 (faultF l cs = 10) := ⟨by unfold faultF; rw [if_neg h1, if_neg h2, if_pos (by rw [← hys.out]; exact h3)]⟩
    clear h2 h2'
    go_enter Try.func48, Try.ntmps48
    go_wp2_with (first | (go_at_call 69; refine (hcalls.out _ (Below.refl _ _)).mono ?_; rintro e w1 ⟨rfl, hb⟩; have HB1 := Aside0.mk hb; clear hb) | (go_at_call 49; refine (hch.out _ HB1.out).mono ?_; rintro e w2 ⟨v, rfl, ho, hb⟩; obtain ⟨A2, c2, rfl⟩ := Kd.R_slice ho; have HB2 := Aside0.mk (below_step HB1.out hb); clear ho hb))
    go_ret
    rw [e.out]
    exact ⟨rfl, HB2.out⟩
  · have e : Aside0 (faultF l cs = 0) := ⟨by unfold faultF; rw [if_neg h1, if_neg h2, if_neg (by rw [← hys.out]; exact h3)]⟩
    clear h2 h2'
    go_enter Try.func48, Try.ntmps48
    go_wp2_with (first | (go_at_call 69; refine (hcalls.out _ (Below.refl _ _)).mono ?_; rintro e w1 ⟨rfl, hb⟩; have HB1 := Aside0.mk hb; clear hb) | (go_at_call 49; refine (hch.out _ HB1.out).mono ?_; rintro e w2 ⟨v, rfl, ho, hb⟩; obtain ⟨A2, c2, rfl⟩ := Kd.R_slice ho; have HB2 := Aside0.mk (below_step HB1.out hb); clear ho hb))
    go_ret
    rw [e.out]
    exact ⟨rfl, HB2.out⟩
def setF (l cs : List S69) : List S69 × Int := if rowsErr l ≠ 0 then ([], rowsErr l) else if faultF l cs ≠ 0 then ([], faultF l cs) else (changedF l cs, 0)
def rows_Set.f (l cs : List S69) : Option (List S69 × Int) := some (setF l cs)
theorem check_walk (A : Option Addr) (c : Nat) (l : List S69) (w : World) (hr : Kd.C k69 w A l.length l) (hc : l.length ≤ c) :
    Calls Try.prog 18 #[.slice A l.length c] w fun e w' => e = .returned (.int .i64 (rowsErr l)) ∧ Below w.heap.size w w' := by
  obtain ⟨k, hk⟩ := (check_ev l).rounds
  exact rows_Check.calls k A c l _ w hr hc hk
theorem rowsErr_len {l : List S69} (h : rowsErr l = 0) : l.length ≤ 40 := by
  unfold rowsErr at h
  split at h
  · cases h
  · omega
set_option maxRecDepth 100000 in
set_option maxHeartbeats 4000000 in
theorem rows_Set.calls (A0 : Option Addr) (c0 : Nat) (l0 : List S69) (A1 : Option Addr) (c1 : Nat) (l1 : List S69) (r1 : List S69) (r2 : Int) (w : World) (hr0 : Kd.C k69 w A0 l0.length l0) (hc0 : l0.length ≤ c0) (hr1 : Kd.C k69 w A1 l1.length l1) (hc1 : l1.length ≤ c1) (h : rows_Set.f l0 l1 = some (r1, r2)) :
    Calls Try.prog 25 #[.slice A0 l0.length c0, .slice A1 l1.length c1] w fun e w' => ∃ v0_ : Value, e = .returned (.tuple #[v0_, .int .i64 r2]) ∧ k69.R 69 w' w.heap.size (fun _ => True) v0_ r1 ∧ Below w.heap.size w w' := by
  replace h := Option.some.inj h
  unfold setF at h
  have HR := Aside0.mk hr0
  have HC := Aside0.mk hc0
  have HQ := Aside0.mk hr1
  have HD := Aside0.mk hc1
  obtain ⟨e1, he1⟩ : ∃ z, z = rowsErr l0 := ⟨_, rfl⟩
  obtain ⟨e2, he2⟩ : ∃ z, z = faultF l0 l1 := ⟨_, rfl⟩
  have H1 : Aside0 (∀ W, Below w.heap.size w W → Calls Try.prog 18 #[.slice A0 l0.length c0] W fun e w' => e = .returned (.int .i64 e1) ∧ Below W.heap.size W w') := ⟨fun W hW => he1 ▸ check_walk A0 c0 l0 W (Kd.C_below hr0 hW) hc0⟩
  rw [← he1, ← he2] at h
  by_cases h1 : e1 ≠ 0
  · rw [if_pos h1] at h
    obtain ⟨rfl, rfl⟩ := Prod.mk.inj h
    clear he1 he2 h hr0 hr1
    go_enter Try.func25, Try.ntmps25
    go_wp2_with (go_at_call 18; refine (H1.out _ (Below.refl _ _)).mono ?_; rintro e w1 ⟨rfl, hb⟩; have HB1 := Aside0.mk hb; clear hb)
    go_ret2
    exact ⟨_, rfl, Kd.R_nil _ _ _ _ _, HB1.out⟩
  rw [if_neg h1] at h
  obtain rfl : e1 = 0 := by omega
  have hl40 := rowsErr_len he1.symm
  have H2 : Aside0 (∀ W, Below w.heap.size w W → Calls Try.prog 48 #[.slice A0 l0.length c0, .slice A1 l1.length c1] W fun e w' => e = .returned (.int .i64 e2) ∧ Below W.heap.size W w') := ⟨fun W hW => he2 ▸ fault_walk A0 A1 c0 c1 l0 l1 W (Kd.C_below hr0 hW) hc0 (Kd.C_below hr1 hW) hc1 (by omega)⟩
  by_cases h2 : e2 ≠ 0
  · rw [if_pos h2] at h
    obtain ⟨rfl, rfl⟩ := Prod.mk.inj h
    clear he1 he2 h hr0 hr1 h1
    go_enter Try.func25, Try.ntmps25
    go_wp2_with (first | (go_at_call 18; refine (H1.out _ (Below.refl _ _)).mono ?_; rintro e w1 ⟨rfl, hb⟩; have HB1 := Aside0.mk hb; clear hb) | (go_at_call 48; refine (H2.out _ HB1.out).mono ?_; rintro e w2 ⟨rfl, hb⟩; have HB2 := Aside0.mk (below_step HB1.out hb); clear hb))
    go_ret2
    exact ⟨_, rfl, Kd.R_nil _ _ _ _ _, HB2.out⟩
  rw [if_neg h2] at h
  obtain rfl : e2 = 0 := by omega
  have hl60 : l1.length ≤ 60 := by
    have := he2
    unfold faultF at this
    by_cases hh : 60 < l1.length
    · rw [if_pos hh] at this; omega
    · omega
  have H3 : Aside0 (∀ W, Below w.heap.size w W → Calls Try.prog 49 #[.slice A0 l0.length c0, .slice A1 l1.length c1] W fun e w' => ∃ v', e = .returned v' ∧ k69.R 69 w' W.heap.size (fun _ => True) v' (changedF l0 l1) ∧ Below W.heap.size W w') := ⟨fun W hW => changed_walk A0 A1 c0 c1 l0 l1 W (Kd.C_below hr0 hW) hc0 (Kd.C_below hr1 hW) hc1 (by omega)⟩
  obtain ⟨rfl, rfl⟩ := Prod.mk.inj h
  clear he1 he2 h hr0 hr1 h1 h2
  go_enter Try.func25, Try.ntmps25
  go_wp2_with (first | (go_at_call 18; refine (H1.out _ (Below.refl _ _)).mono ?_; rintro e w1 ⟨rfl, hb⟩; have HB1 := Aside0.mk hb; clear hb) | (go_at_call 48; refine (H2.out _ HB1.out).mono ?_; rintro e w2 ⟨rfl, hb⟩; have HB2 := Aside0.mk (below_step HB1.out hb); clear hb) | (go_at_call 49; refine (H3.out _ HB2.out).mono ?_; rintro e w3 ⟨v, rfl, ho, hb⟩; have HO3 := Aside0.mk (Kd.R_lower ho HB2.out.size); have HB3 := Aside0.mk (below_step HB2.out hb); clear ho hb))
  go_ret2
  exact ⟨_, rfl, HO3.out, HB3.out⟩
end Go.Proofs.Ytnjidfgjldkkcaa.Q
