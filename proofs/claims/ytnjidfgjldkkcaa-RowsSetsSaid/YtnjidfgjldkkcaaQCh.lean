/- rows.Changed, walked. -/
import Derived.Test.YtnjidfgjldkkcaaQRb
import Derived.Test.YtnjidfgjldkkcaaQBs
import Derived.Test.YtnjidfgjldkkcaaQCl
namespace Go.Proofs.Ytnjidfgjldkkcaa.Q
open Go.RowKit Go.Proofs.YtnjidfgjldkkcaaW.PrintWords Go.Proofs.YtnjidfgjldkkcaaW.PrintLast Go.Proofs.YtnjidfgjldkkcaaW.PrintMore
/-- One change of a table. -/
def stepR (out : List S69) (c : S69) : List S69 :=
  if placeB out c.f0 = true then (if c.f1.toList = [] then out.eraseIdx (placeI out c.f0) else out.set (placeI out c.f0) c)
  else if c.f1.toList = [] then out else insRow out (placeI out c.f0) c
def changedF (l cs : List S69) : List S69 := cs.foldl stepR l
theorem bs_le (less : Nat → Bool) : ∀ (f i j : Nat), i ≤ j → bs less f i j ≤ j
  | 0, _, _, h => h
  | f + 1, i, j, h => by
    unfold bs
    by_cases hij : i < j
    · rw [if_pos hij]
      split
      · exact bs_le less f _ j (by omega)
      · have := bs_le less f i ((i + j) / 2) (by omega)
        omega
    · rw [if_neg hij]; exact h
theorem placeI_le (l : List S69) (k : ByteArray) : placeI l k ≤ l.length := bs_le _ _ _ _ (Nat.zero_le _)
theorem placeB_lt {l : List S69} {k : ByteArray} (h : placeB l k = true) : placeI l k < l.length := by
  unfold placeB at h
  rw [Bool.and_eq_true, decide_eq_true_eq] at h
  exact h.1
theorem stepR_len (out : List S69) (c : S69) : (stepR out c).length ≤ out.length + 1 := by
  unfold stepR
  repeat' split
  · rw [List.length_eraseIdx]; split <;> omega
  · rw [List.length_set]; omega
  · omega
  · rw [insRow_length _ _ _ (placeI_le _ _)]; omega
theorem changed_next {cs : List S69} {i : Nat} {out R : List S69} (h : changedF out (cs.drop i) = R) (hi : i < cs.length) : changedF (stepR out (rd_T69 cs (i : Int))) (cs.drop (i + 1)) = R := by
  have e : rd_T69 cs (i : Int) = cs[i] := by
    unfold rd_T69
    rw [Int.toNat_natCast, List.getD_eq_getElem?_getD, List.getElem?_eq_getElem hi]; rfl
  rw [← h, List.drop_eq_getElem_cons hi, e]
  rfl
theorem row_set {w : World} {base g c n : Nat} {xs : List S69} {i : Nat} {x : S69} (hR : k69.R 69 w base (fun _ => True) (.slice (some ⟨g, 0, none⟩) n c) xs) (hi : i < n) :
    k69.R 69 ((w.setCell ⟨g, i * 2, none⟩ (.string x.f0)).setCell ⟨g, i * 2 + 1, none⟩ (.string x.f1)) base (fun _ => True) (.slice (some ⟨g, 0, none⟩) n c) (xs.set i x) := by
  have hxn : xs.length = n := (Kd.R_reads' hR).1.symm
  obtain ⟨cur, hg, hh, hn, hm, hs, ht⟩ := row_slice hR
  obtain ⟨cur2, q1, q2, q3⟩ := setCells_row [Value.string x.f0, Value.string x.f1] (i * 2) w cur hh (by simp; omega)
  refine row_mk hg q1 (by rw [List.length_set, hxn]) hn hm (by omega) ?_
  have e : xs.set i x = xs.take i ++ x :: xs.drop (i + 1) := List.set_eq_take_append_cons_drop .. |>.trans (by rw [if_pos (by omega)])
  have e1 : cur.toList.take (i * 2) = (rowCells xs).take (i * 2) := by rw [← ht, List.take_take, Nat.min_eq_left (by omega)]
  have e2 : cur.toList.drop (i * 2 + 2) = (rowCells xs).drop ((i + 1) * 2) ++ cur.toList.drop (n * 2) := by
    have : cur.toList = rowCells xs ++ cur.toList.drop (n * 2) := by
      conv => lhs; rw [← List.take_append_drop (n * 2) cur.toList]
      rw [ht]
    conv => lhs; rw [this]
    rw [List.drop_append_of_le_length (by rw [rowCells_length]; omega), show i * 2 + 2 = (i + 1) * 2 by omega]
  have e3 : rowCells (xs.set i x) = (rowCells xs).take (i * 2) ++ [Value.string x.f0, Value.string x.f1] ++ (rowCells xs).drop ((i + 1) * 2) := by
    rw [e, rowCells_append, rowCells_take xs i (by omega), ← rowCells_drop xs (i + 1) (by omega), List.append_assoc]
    rfl
  rw [q3]
  show List.take _ (cur.toList.take (i * 2) ++ _ ++ cur.toList.drop (i * 2 + 2)) = _
  rw [e1, e2, e3, ← List.append_assoc]
  exact List.take_left' (by simp only [List.length_append, List.length_take, List.length_drop, List.length_cons, List.length_nil, rowCells_length]; omega)
set_option maxRecDepth 100000 in
set_option maxHeartbeats 8000000 in
theorem changed_walk (A B : Option Addr) (c d : Nat) (l cs : List S69) (w : World) (hr : Kd.C k69 w A l.length l) (hc : l.length ≤ c) (hq : Kd.C k69 w B cs.length cs) (hd : cs.length ≤ d) (hl : l.length + cs.length ≤ 900000) :
    Calls Try.prog 49 #[.slice A l.length c, .slice B cs.length d] w fun e w' => ∃ v', e = .returned v' ∧ k69.R 69 w' w.heap.size (fun _ => True) v' (changedF l cs) ∧ Below w.heap.size w w' := by
  have HR := Aside0.mk hr
  have HC := Aside0.mk hc
  have HQ := Aside0.mk hq
  have HD := Aside0.mk hd
  clear hr hc hq hd
  go_enter Try.func49, Try.ntmps49
  go_wp2_with (go_at_call 67; refine (api_Row_67.calls A c l l _ HR.out HC.out (by unfold api_Row_67.f; rw [if_pos (by omega)])).mono ?_; rintro e w1 ⟨v, rfl, ho, hb⟩; have HO1 := Aside0.mk ho; have HB1 := Aside0.mk hb; clear ho hb)
  go_loopw [5, 14] (fun v5 v14 wr => ∃ (i : Nat) (out : List S69), v14 = .int .i64 i ∧ Aside0 (i ≤ cs.length) ∧ Aside0 (changedF out (cs.drop i) = changedF l cs) ∧ Aside0 (out.length ≤ l.length + i) ∧ Aside0 (k69.R 69 wr w.heap.size (fun _ => True) v5 out) ∧ Aside0 (Below w.heap.size w wr)) (fun _ v14 _ => cs.length - (intOf v14).toNat)
  case atStart => exact ⟨0, l, rfl, ⟨Nat.zero_le _⟩, ⟨rfl⟩, ⟨Nat.le_refl _⟩, HO1, HB1⟩
  case round =>
    obtain ⟨i, out, rfl, hi, hs, hol, HO, HB⟩ := hrel
    have hil := hi.out
    by_cases hlt : i < cs.length
    · have hst := Aside0.mk (changed_next hs.out hlt)
      obtain ⟨ad, rfl, x0, x1⟩ := at_T69 (Kd.C_below HQ.out HB.out) (i : Int) (by omega) (by omega)
      obtain ⟨m, hm⟩ : ∃ m, m = rd_T69 cs (i : Int) := ⟨_, rfl⟩
      rw [← hm] at hst x0 x1
      rw [Int.toNat_natCast] at x0 x1
      obtain ⟨k, u⟩ := m
      obtain ⟨A5, c5, rfl⟩ := Kd.R_slice HO.out
      have hcap := Aside0.mk (Kd.R_reads' HO.out)
      obtain ⟨p, hp⟩ : ∃ p, Aside0 (p = placeI out k) := ⟨_, ⟨rfl⟩⟩
      obtain ⟨b, hb⟩ : ∃ b, Aside0 (b = placeB out k) := ⟨_, ⟨rfl⟩⟩
      have hcall : Aside0 (∀ W, Below wr.heap.size wr W → Calls Try.prog 66 #[.slice A5 out.length c5, .string k] W fun e w' => e = .returned (.tuple #[.int .i64 (p : Int), .bool b]) ∧ Below W.heap.size W w') := ⟨fun W hW => by
        have := rows_place.calls A5 c5 out k (p : Int) b W (Kd.C_below hcap.out.2.2 hW) hcap.out.2.1 (by unfold rows_place.f; rw [if_pos (by have := hol.out; omega), hp.out, hb.out])
        exact this⟩
      clear hm
      have hpl : p ≤ out.length := hp.out ▸ placeI_le out k
      have hol' := hol.out
      cases b
      · by_cases hu : u.toList = []
        · have hr : Aside0 (stepR out ⟨k, u⟩ = out) := ⟨by unfold stepR; rw [if_neg (by rw [← hb.out]; simp), if_pos hu]⟩
          rw [hr.out] at hst
          go_wp2_with (go_at_call 66; refine (hcall.out _ (by repeat (first | exact Below.refl _ _ | refine below_set ?_ (Nat.le_refl _) | apply below_alloc))).mono ?_; rintro e w3 ⟨rfl, hw⟩; have HW3 := Aside0.mk (below_step (below_alloc (Below.refl _ _) _ : Below wr.heap.size wr (wr.alloc (.cells #[.string k, .string u] 69))) hw); have z0 : w3.cell? ⟨wr.heap.size, 0, none⟩ = some (.string k) := (hw.cell (by simp)).trans (by rw [blk_cell (blk_new wr _)]; rfl); have z1 : w3.cell? ⟨wr.heap.size, 1, none⟩ = some (.string u) := (hw.cell (by simp)).trans (by rw [blk_cell (blk_new wr _)]; rfl); have HO3 := Aside0.mk (Kd.R_below HO.out HW3.out); have HB3 := Aside0.mk (below_step HB.out HW3.out); clear hw)
          all_goals exact ⟨⟨i + 1, out, by simp, ⟨hlt⟩, hst, ⟨by omega⟩, HO3, HB3⟩, by simp [intOf]; omega⟩
        · have hr : Aside0 (stepR out ⟨k, u⟩ = insRow out p ⟨k, u⟩) := ⟨by unfold stepR; rw [if_neg (by rw [← hb.out]; simp), if_neg hu, ← hp.out]⟩
          rw [hr.out] at hst
          have hue : u.toList.isEmpty = false := by simpa using hu
          have hil2 := Aside0.mk (insRow_length out p ⟨k, u⟩ hpl)
          go_wp2_with (first | (go_at_call 66; refine (hcall.out _ (by repeat (first | exact Below.refl _ _ | refine below_set ?_ (Nat.le_refl _) | apply below_alloc))).mono ?_; rintro e w3 ⟨rfl, hw⟩; have HW3 := Aside0.mk (below_step (below_alloc (Below.refl _ _) _ : Below wr.heap.size wr (wr.alloc (.cells #[.string k, .string u] 69))) hw); have z0 : w3.cell? ⟨wr.heap.size, 0, none⟩ = some (.string k) := (hw.cell (by simp)).trans (by rw [blk_cell (blk_new wr _)]; rfl); have z1 : w3.cell? ⟨wr.heap.size, 1, none⟩ = some (.string u) := (hw.cell (by simp)).trans (by rw [blk_cell (blk_new wr _)]; rfl); have HO3 := Aside0.mk (Kd.R_below HO.out HW3.out); have HB3 := Aside0.mk (below_step HB.out HW3.out); clear hw) | (go_at_call 71; refine (insert_walk w.heap.size _ out p ⟨k, u⟩ w3.heap.size _ (Kd.R_alloc HO3.out _) hpl (blk_new w3 _) (fun he => by have := Kd.R_lt HO3.out _ he.symm; omega) (Nat.le_trans HB3.out.size (by simp)) (by omega)).mono ?_; rintro e w4 ⟨v4, rfl, ho, hm⟩; obtain ⟨A4, c4, rfl⟩ := Kd.R_slice ho; have HO4 := Aside0.mk ho; have HB4 := Aside0.mk (hm.below (below_step HB3.out (below_alloc (Below.refl _ _) _)) (Nat.le_trans HB3.out.size (by simp))); clear ho hm))
          go_roundw
          case rel => exact ⟨i + 1, _, by simp, ⟨hlt⟩, hst, ⟨by rw [hil2.out]; omega⟩, HO4, HB4⟩
          case measure => simp [intOf]; omega
      · have hplt : p < out.length := hp.out ▸ placeB_lt hb.out.symm
        by_cases hu : u.toList = []
        · have hr : Aside0 (stepR out ⟨k, u⟩ = out.eraseIdx p) := ⟨by unfold stepR; rw [if_pos hb.out.symm, if_pos hu, ← hp.out]⟩
          rw [hr.out] at hst
          have hel : Aside0 ((out.eraseIdx p).length ≤ out.length) := ⟨by rw [List.length_eraseIdx]; split <;> omega⟩
          go_wp2_with (first | (go_at_call 66; refine (hcall.out _ (by repeat (first | exact Below.refl _ _ | refine below_set ?_ (Nat.le_refl _) | apply below_alloc))).mono ?_; rintro e w3 ⟨rfl, hw⟩; have HW3 := Aside0.mk (below_step (below_alloc (Below.refl _ _) _ : Below wr.heap.size wr (wr.alloc (.cells #[.string k, .string u] 69))) hw); have z0 : w3.cell? ⟨wr.heap.size, 0, none⟩ = some (.string k) := (hw.cell (by simp)).trans (by rw [blk_cell (blk_new wr _)]; rfl); have z1 : w3.cell? ⟨wr.heap.size, 1, none⟩ = some (.string u) := (hw.cell (by simp)).trans (by rw [blk_cell (blk_new wr _)]; rfl); have HO3 := Aside0.mk (Kd.R_below HO.out HW3.out); have HB3 := Aside0.mk (below_step HB.out HW3.out); clear hw) | (go_at_call 70; refine (delete_walk w.heap.size _ out p _ HO3.out hplt HB3.out.size (by omega)).mono ?_; rintro e w4 ⟨v4, rfl, ho, hm⟩; obtain ⟨A4, c4, rfl⟩ := Kd.R_slice ho; have HO4 := Aside0.mk ho; have HB4 := Aside0.mk (hm.below HB3.out HB3.out.size); clear ho hm))
          go_roundw
          case rel => exact ⟨i + 1, _, by simp, ⟨hlt⟩, hst, ⟨by have := hel.out; omega⟩, HO4, HB4⟩
          case measure => simp [intOf]; omega
        · have hr : Aside0 (stepR out ⟨k, u⟩ = out.set p ⟨k, u⟩) := ⟨by unfold stepR; rw [if_pos hb.out.symm, if_neg hu, ← hp.out]⟩
          rw [hr.out] at hst
          have hue : u.toList.isEmpty = false := by simpa using hu
          obtain ⟨g, c', cur, hv, -⟩ := row_open HO.out (by omega)
          injection hv with hv1 hv2 hv3
          subst hv1 hv3
          go_wp2_with (go_at_call 66; refine (hcall.out _ (by repeat (first | exact Below.refl _ _ | refine below_set ?_ (Nat.le_refl _) | apply below_alloc))).mono ?_; rintro e w3 ⟨rfl, hw⟩; have HW3 := Aside0.mk (below_step (below_alloc (Below.refl _ _) _ : Below wr.heap.size wr (wr.alloc (.cells #[.string k, .string u] 69))) hw); have z0 : w3.cell? ⟨wr.heap.size, 0, none⟩ = some (.string k) := (hw.cell (by simp)).trans (by rw [blk_cell (blk_new wr _)]; rfl); have z1 : w3.cell? ⟨wr.heap.size, 1, none⟩ = some (.string u) := (hw.cell (by simp)).trans (by rw [blk_cell (blk_new wr _)]; rfl); have HO3 := Aside0.mk (Kd.R_below HO.out HW3.out); have HB3 := Aside0.mk (below_step HB.out HW3.out); obtain ⟨ad', e', y0, y1⟩ := at_T69 (Kd.R_reads' HO3.out).2.2 (p : Int) (by omega) (by omega); obtain rfl := Option.some.inj e'; rw [Int.toNat_natCast, add_plain] at y0 y1; obtain ⟨cur3, hg3, hh3, -⟩ := row_slice HO3.out; have f0 := blk_frozen hh3 (p * 2); have f1 := blk_frozen hh3 (p * 2 + 1); have HS3 := Aside0.mk (row_set (x := ⟨k, u⟩) HO3.out hplt); have HM3 := Aside0.mk (((ModT.set_ (T := [69]) (j := p * 2) hh3 (by simp) hg3 (.string k)).trans (ModT.set_ (j := p * 2 + 1) (heap_set1 hh3) (by simp) hg3 (.string u))).below HB3.out HB3.out.size); clear hh3; clear hw)
          go_roundw
          case rel => exact ⟨i + 1, _, by simp, ⟨hlt⟩, hst, ⟨by rw [List.length_set]; omega⟩, HS3, HM3⟩
          case measure => simp [intOf]; omega
    · go_wp2
      go_ret
      have := hs.out
      rw [List.drop_of_length_le (by omega)] at this
      rw [← this]
      exact ⟨_, rfl, HO.out, HB.out⟩
end Go.Proofs.Ytnjidfgjldkkcaa.Q
