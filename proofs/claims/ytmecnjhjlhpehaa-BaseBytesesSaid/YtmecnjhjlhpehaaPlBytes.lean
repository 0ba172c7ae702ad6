/- What base.Bytes answers, and what the first half of its reference does: plain. -/
import Derived.Test.YtmecnjhjlhpehaaPlTbl
namespace Go.Proofs.Ytmecnjhjlhpehaa.Plain
open Go.RowKit Go.Proofs.Ytmecnjhjlhpehaa.Q Go.Proofs.Ytmecnjhjlhpehaa.Bits Go.Proofs.YtmecnjhjlhpehaaW.PrintWords Go.Proofs.YtmecnjhjlhpehaaW.PrintLast Go.Proofs.YtmecnjhjlhpehaaW.PrintMore

/-! #### base.Bytes -/
def fin (s : St) : List Int × Int := if s.m = 6 then ([], 4) else if s.b = 0 then (nat s.out, 0) else ([], 4)
def inv (s : St) (i : Nat) : Prop := (s.m = 0 ∨ s.m = 2 ∨ s.m = 4 ∨ s.m = 6) ∧ s.b < 2 ^ s.m ∧ s.out.length ≤ i
theorem inv_step {s : St} {i v : Nat} (h : inv s i) (hv : v < 64) : inv (bstep s v) (i + 1) := by
  obtain ⟨o, m, b⟩ := s
  obtain ⟨h1, h2, h3⟩ := h
  simp only at h1 h2 h3
  rcases h1 with rfl | rfl | rfl | rfl
  · exact ⟨by simp [bstep], by simp [bstep] at h2 ⊢; omega, by simp [bstep]; omega⟩
  · exact ⟨by simp [bstep], by simp [bstep]; omega, by simp [bstep]; omega⟩
  · exact ⟨by simp [bstep], by simp [bstep]; omega, by simp [bstep]; omega⟩
  · exact ⟨by simp [bstep], by simp [bstep]; omega, by simp [bstep]; omega⟩
theorem prog_l0 (s : ByteArray) (hs : s.size ≤ 1200) : ∀ (d i : Nat) (st : St), i + d = s.size → inv st i →
    Ev (fun k => base_Bytes.l0 k s (nat st.out) (st.b : Int) (st.m : Int) (s.size : Int) (i : Int)) (match scan s d i with | none => ([], 4) | some vs => fin (vs.foldl bstep st))
  | 0, i, st, hi, hinv => by
    refine Ev.step (fun k => rfl) (Ev.neg (by omega) ?_)
    show Ev _ (fin st)
    unfold fin
    by_cases h6 : st.m = 6
    · rw [if_pos h6]; exact Ev.pos (by omega) (Ev.now _)
    · rw [if_neg h6]
      refine Ev.neg (by omega) ?_
      by_cases h0 : st.b = 0
      · rw [if_pos h0]; exact Ev.pos (by omega) (Ev.now _)
      · rw [if_neg h0]; exact Ev.neg (by omega) (Ev.now _)
  | d + 1, i, st, hi, hinv => by
    have hlt : i < s.size := by omega
    have hb := bt_range s (i : Int)
    refine Ev.step (fun k => rfl) (Ev.pos (by omega) (Ev.pos (by omega) (Ev.pos (by omega) ?_)))
    refine Ev.bind (Ev.lift (show strings_IndexByte.f tbl (bt s (i : Int)) = some (valOf (bt s (i : Int))) from rfl)) ?_
    unfold scan
    rcases (val_cases _ hb.1 hb.2).2 with e | ⟨v, e, e1, e2⟩
    · rw [if_pos (by omega)]
      exact Ev.pos (by omega) (Ev.now _)
    rw [if_neg (by omega)]
    refine Ev.neg (by omega) ?_
    have ih := prog_l0 s hs d (i + 1) (bstep st v) (by omega) (inv_step hinv e1)
    have ec : (match (scan s d (i + 1)).map ((valOf (bt s (i : Int))).toNat :: ·) with | none => (([], 4) : List Int × Int) | some vs => fin (vs.foldl bstep st)) = (match scan s d (i + 1) with | none => ([], 4) | some vs => fin (vs.foldl bstep (bstep st v))) := by
      rw [e, Int.toNat_natCast]
      cases scan s d (i + 1) <;> rfl
    rw [ec, e]
    have e3 : wrap64 ((i : Int) + 1) = ((i + 1 : Nat) : Int) := wrap_succ (by omega)
    rw [e3]
    obtain ⟨o, m, b⟩ := st
    obtain ⟨h1, h2, h3⟩ := hinv
    simp only at h1 h2 h3 ih ⊢
    have hp : 2 ^ m ≤ 64 := by rcases h1 with rfl | rfl | rfl | rfl <;> decide
    rw [or_join b v (by omega) e1]
    have em : wrap64 ((m : Int) + 6) = ((m + 6 : Nat) : Int) := by rw [wrap_in (by omega) (by omega)]; rfl
    rw [em]
    by_cases h8 : m + 6 ≥ 8
    · have em2 : wrap64 (((m + 6 : Nat) : Int) - 8) = ((m - 2 : Nat) : Int) := by rw [wrap_in (by omega) (by omega)]; omega
      refine Ev.pos (by omega) ?_
      rw [em2]
      refine Ev.pos (by omega) (Ev.pos (by rw [nat_length]; omega) ?_)
      have hq : (b * 64 + v) / 2 ^ (m - 2) < 256 := by rcases h1 with rfl | rfl | rfl | rfl <;> simp at h2 h8 ⊢ <;> omega
      have es : wrap64 (shl .i64 1 ((m - 2 : Nat) : Int) - 1) = 2 ^ (m - 2) - 1 := by rcases h1 with rfl | rfl | rfl | rfl <;> simp at h8 <;> decide +kernel
      rw [shr_nat _ _ (by omega), es, and_mask (b * 64 + v) (m - 2) (by omega) (by omega)]
      have est : bstep ⟨o, m, b⟩ v = ⟨o ++ [(b * 64 + v) / 2 ^ (m - 2)], m - 2, (b * 64 + v) % 2 ^ (m - 2)⟩ := by unfold bstep; rw [if_pos h8]
      rw [est] at ih
      simp only at ih
      rw [nat_append] at ih
      have e9 : (((b * 64 + v) / 2 ^ (m - 2) : Nat) : Int) % 256 = (((b * 64 + v) / 2 ^ (m - 2) : Nat) : Int) := by
        generalize (b * 64 + v) / 2 ^ (m - 2) = z at hq ⊢
        omega
      rw [e9, est]
      exact ih
    · have est : bstep ⟨o, m, b⟩ v = ⟨o, m + 6, b * 64 + v⟩ := by unfold bstep; rw [if_neg h8]
      rw [est] at ih ⊢
      exact Ev.neg (by omega) ih
theorem prog_ev (s : ByteArray) (hs : s.size ≤ 1200) : Ev (fun k => base_Bytes.f k s) (match scan s s.size 0 with | none => ([], 4) | some vs => if (decC vs).2 = true then (nat (decC vs).1, 0) else ([], 4)) := by
  unfold base_Bytes.f
  refine Ev.neg (by omega) ?_
  have h := prog_l0 s hs s.size 0 ⟨[], 0, 0⟩ (by omega) ⟨by simp, by simp, by simp⟩
  refine Ev.to h ?_
  cases hsc : scan s s.size 0 with
  | none => rfl
  | some vs =>
    obtain ⟨h1, _, _⟩ := scan_says s s.size 0 vs hsc (by omega)
    obtain ⟨m, b, e, hiff⟩ := run_dec vs [] h1
    show fin (vs.foldl bstep ⟨[], 0, 0⟩) = if (decC vs).2 = true then (nat (decC vs).1, 0) else ([], 4)
    rw [e]
    unfold fin
    simp only [List.nil_append]
    by_cases hd : (decC vs).2 = true
    · have := hiff.1 hd
      rw [if_pos hd, if_neg (by omega), if_pos (by omega)]
    · have : m = 6 ∨ b ≠ 0 := Decidable.not_not.1 (fun h => hd (hiff.2 h))
      rw [if_neg hd]
      by_cases h6 : m = 6
      · rw [if_pos h6]
      · rw [if_neg h6, if_neg (by omega)]

/-! #### the reference: letters to bits, bits to bytes -/
theorem ref_l1 (s : ByteArray) (x4 : List Int) (i : Nat) (hi : i < s.size) (r : List Int × Int) : ∀ (d j : Nat) (x6 : Int), j + d = 64 →
    Ev (fun k => if lastIdx (bt s (i : Int)) d x6 j < 0 then (some (([] : List Int), (4 : Int))) else bagnallref_BaseBytes.l2 k s x4 (i : Int) (lastIdx (bt s (i : Int)) d x6 j) 5) r → Ev (fun k => bagnallref_BaseBytes.l1 k s x4 (i : Int) x6 (j : Int)) r
  | 0, j, x6, hj, h => Ev.step (fun k => rfl) (Ev.neg (by omega) h)
  | d + 1, j, x6, hj, h => by
    refine Ev.step (fun k => rfl) (Ev.pos (by omega) (Ev.pos (by omega) (Ev.pos (by omega) (Ev.pos (by omega) ?_))))
    have e3 : wrap64 ((j : Int) + 1) = ((j + 1 : Nat) : Int) := wrap_succ (by omega)
    rw [e3]
    by_cases e : bt tbl (j : Int) = bt s (i : Int)
    · exact Ev.pos e (ref_l1 s x4 i hi r d (j + 1) (j : Int) (by omega) (by simpa only [lastIdx, if_pos e] using h))
    · exact Ev.neg e (ref_l1 s x4 i hi r d (j + 1) x6 (by omega) (by simpa only [lastIdx, if_neg e] using h))
theorem ref_l2s (s : ByteArray) (x4 : List Int) (x5 : Int) (v c : Nat) (hv : v < 64) (hc : c ≤ 5) (hx : x4.length < 17592186044416) (r : List Int × Int)
    (h : Ev (fun k => bagnallref_BaseBytes.l2 k s (x4 ++ [((v / 2 ^ c % 2 : Nat) : Int)]) x5 (v : Int) ((c : Int) - 1)) r) : Ev (fun k => bagnallref_BaseBytes.l2 k s x4 x5 (v : Int) (c : Int)) r := by
  refine Ev.step (fun k => rfl) (Ev.pos (by omega) (Ev.pos (by omega) (Ev.pos hx ?_)))
  rw [bit_of v c (by omega) hv, wrap_in (by omega) (by omega)]
  exact h
theorem ref_l2 (s : ByteArray) (bs : List Nat) (i v : Nat) (hv : v < 64) (hi : i < 1200) (hx : bs.length ≤ 10000) (r : List Int × Int)
    (h : Ev (fun k => bagnallref_BaseBytes.l0 k s (nat (bs ++ bits6 v)) ((i + 1 : Nat) : Int)) r) : Ev (fun k => bagnallref_BaseBytes.l2 k s (nat bs) (i : Int) (v : Int) 5) r := by
  have hl := nat_length bs
  refine ref_l2s s _ _ v 5 hv (by omega) (by omega) r ?_
  refine ref_l2s s _ _ v 4 hv (by omega) (by simp; omega) r ?_
  refine ref_l2s s _ _ v 3 hv (by omega) (by simp; omega) r ?_
  refine ref_l2s s _ _ v 2 hv (by omega) (by simp; omega) r ?_
  refine ref_l2s s _ _ v 1 hv (by omega) (by simp; omega) r ?_
  refine ref_l2s s _ _ v 0 hv (by omega) (by simp; omega) r ?_
  refine Ev.step (fun k => rfl) (Ev.neg (by omega) ?_)
  have e3 : wrap64 ((i : Int) + 1) = ((i + 1 : Nat) : Int) := wrap_succ (by omega)
  rw [e3]
  rw [nat_append] at h
  simpa [nat, bits6] using h
theorem ref_l0 (s : ByteArray) (hs : s.size ≤ 1200) (r : List Int × Int) : ∀ (d i : Nat) (bs : List Nat), i + d = s.size → bs.length = 6 * i →
    (match scan s d i with | none => r = ([], 4) | some vs => Ev (fun k => bagnallref_BaseBytes.l3 k s (nat (bs ++ vs.flatMap bits6)) [] 0) r) → Ev (fun k => bagnallref_BaseBytes.l0 k s (nat bs) (i : Int)) r
  | 0, i, bs, hi, hb, h => by
    refine Ev.step (fun k => rfl) (Ev.neg (by omega) ?_)
    simpa [scan] using h
  | d + 1, i, bs, hi, hb, h => by
    have hlt : i < s.size := by omega
    have hr := bt_range s (i : Int)
    refine Ev.step (fun k => rfl) (Ev.pos (by omega) ?_)
    refine ref_l1 s _ i hlt r 64 0 (-1) rfl ?_
    obtain ⟨e0, hv⟩ := val_cases _ hr.1 hr.2
    rw [e0]
    unfold scan at h
    rcases hv with e | ⟨v, e, e1, e2⟩
    · rw [if_pos (by omega)] at h
      subst h
      exact Ev.pos (by omega) (Ev.now _)
    rw [if_neg (by omega)] at h
    refine Ev.neg (by omega) ?_
    rw [e]
    refine ref_l2 s bs i v e1 (by omega) (by omega) r (ref_l0 s hs r d (i + 1) (bs ++ bits6 v) (by omega) (by simp [bits6]; omega) ?_)
    rw [e, Int.toNat_natCast] at h
    cases hsc : scan s d (i + 1) with
    | none => rw [hsc] at h; exact h
    | some vs =>
      rw [hsc] at h
      simpa [List.append_assoc] using h
theorem ref_l4 (s : ByteArray) (x4 x9 : List Int) (x10 : Int) (y : List Nat) (hy : ∀ b ∈ y, b < 2) (hl : y.length ≤ 8) (r : List Int × Int) : ∀ (d j n : Nat), j + d = y.length → n < 2 ^ j →
    Ev (fun k => if x9.length < 140737488355328 then (bagnallref_BaseBytes.l3 k s x4 (x9 ++ [(((y.drop j).foldl (fun n b => 2 * n + b) n : Nat) : Int) % 256]) (wrap64 (x10 + 8))) else none) r → Ev (fun k => bagnallref_BaseBytes.l4 k s x4 x9 x10 (n : Int) (nat y) ((nat y).length : Int) (j : Int)) r
  | 0, j, n, hj, hn, h => by
    refine Ev.step (fun k => rfl) (Ev.neg (by rw [nat_length]; omega) ?_)
    rw [List.drop_of_length_le (by omega)] at h
    exact h
  | d + 1, j, n, hj, hn, h => by
    have hlt : j < y.length := by omega
    have h8 : 2 ^ j ≤ 2 ^ 8 := Nat.pow_le_pow_right (by decide) (by omega)
    have hb := hy _ (List.getElem_mem hlt)
    refine Ev.step (fun k => rfl) (Ev.pos (by rw [nat_length]; omega) (Ev.pos (by omega) (Ev.pos (by rw [nat_length]; omega) ?_)))
    have e3 : wrap64 ((j : Int) + 1) = ((j + 1 : Nat) : Int) := wrap_succ (by omega)
    have e4 : wrap64 (wrap64 (2 * (n : Int)) + rd (nat y) (j : Int)) = ((2 * n + y[j] : Nat) : Int) := by
      rw [rd_at (by rw [nat_length]; exact hlt)]
      simp only [nat, List.getElem_map]
      rw [wrap_in (n := 2 * (n : Int)) (by omega) (by omega), wrap_in (by omega) (by omega)]
      omega
    rw [e3, e4]
    refine ref_l4 s x4 x9 x10 y hy hl r d (j + 1) _ (by omega) (by rw [Nat.pow_succ]; omega) ?_
    rw [List.drop_eq_getElem_cons hlt] at h
    exact h
theorem fold_lt : ∀ (l : List Nat) (n j : Nat), (∀ b ∈ l, b < 2) → n < 2 ^ j → l.foldl (fun n b => 2 * n + b) n < 2 ^ (j + l.length)
  | [], n, j, _, hn => hn
  | b :: l, n, j, h, hn => by
    have := h b (by simp)
    have := fold_lt l (2 * n + b) (j + 1) (fun x hx => h x (by simp [hx])) (by rw [Nat.pow_succ]; omega)
    rw [List.length_cons, show j + (l.length + 1) = j + 1 + l.length by omega]
    exact this
theorem ref_l3 (s : ByteArray) (bs : List Nat) (hb : ∀ b ∈ bs, b < 2) (hl : bs.length ≤ 8000) (r : List Int × Int) : ∀ (f q : Nat) (out : List Nat), bs.length ≤ 8 * q + 8 * f → q ≤ 1000 → out.length ≤ q →
    Ev (fun k => bagnallref_BaseBytes.l5 k s (nat (out ++ toBytes f (bs.drop (8 * q)))) (⟨#[]⟩ : ByteArray) 0) r → Ev (fun k => bagnallref_BaseBytes.l3 k s (nat bs) (nat out) ((8 * q : Nat) : Int)) r
  | 0, q, out, hq, hq2, ho, h => by
    refine Ev.step (fun k => rfl) (Ev.neg (by rw [wrap_in (by omega) (by omega), nat_length]; omega) ?_)
    simpa [toBytes] using h
  | f + 1, q, out, hq, hq2, ho, h => by
    have e8 : wrap64 (((8 * q : Nat) : Int) + 8) = ((8 * (q + 1) : Nat) : Int) := by rw [wrap_in (by omega) (by omega)]; omega
    by_cases hlt : 8 * (q + 1) ≤ bs.length
    · refine Ev.step (fun k => rfl) (Ev.pos (by rw [e8, nat_length]; omega) (Ev.pos (by omega) (Ev.pos (by rw [e8]; omega) ?_)))
      rw [e8, Int.toNat_natCast, Int.toNat_natCast]
      simp only [Option.bind_some]
      have ey : ((nat bs).take (8 * (q + 1))).drop (8 * q) = nat ((bs.drop (8 * q)).take 8) := by
        unfold nat
        rw [List.map_take, List.map_drop, List.drop_take, show 8 * (q + 1) - 8 * q = 8 by omega]
      have hyl : ((bs.drop (8 * q)).take 8).length = 8 := by rw [List.length_take, List.length_drop]; omega
      have hyb : ∀ b ∈ (bs.drop (8 * q)).take 8, b < 2 := fun b hb' => hb b (List.mem_of_mem_drop (List.mem_of_mem_take hb'))
      rw [ey]
      refine ref_l4 s _ _ _ _ hyb (by omega) r 8 0 0 (by omega) (by decide) (Ev.pos (by rw [nat_length]; omega) ?_)
      rw [List.drop_zero, e8]
      have hf := fold_lt ((bs.drop (8 * q)).take 8) 0 0 hyb (by decide)
      rw [hyl] at hf
      have em : ((((bs.drop (8 * q)).take 8).foldl (fun n b => 2 * n + b) 0 : Nat) : Int) % 256 = ((fold8 ((bs.drop (8 * q)).take 8) : Nat) : Int) := by unfold fold8; omega
      rw [em]
      have eo : nat out ++ [((fold8 ((bs.drop (8 * q)).take 8) : Nat) : Int)] = nat (out ++ [fold8 ((bs.drop (8 * q)).take 8)]) := by rw [nat_append]; rfl
      rw [eo]
      refine ref_l3 s bs hb hl r f (q + 1) _ (by omega) (by omega) (by simp; omega) ?_
      have et : toBytes (f + 1) (bs.drop (8 * q)) = fold8 ((bs.drop (8 * q)).take 8) :: toBytes f (bs.drop (8 * (q + 1))) := by
        conv => lhs; unfold toBytes
        rw [if_neg (by rw [List.length_drop]; omega), List.drop_drop, show 8 * q + 8 = 8 * (q + 1) by omega]
      rw [et] at h
      simpa [List.append_assoc] using h
    · refine Ev.step (fun k => rfl) (Ev.neg (by rw [e8, nat_length]; omega) ?_)
      have et : toBytes (f + 1) (bs.drop (8 * q)) = [] := by
        conv => lhs; unfold toBytes
        rw [if_pos (by rw [List.length_drop]; omega)]
      rw [et, List.append_nil] at h
      exact h
end Go.Proofs.Ytmecnjhjlhpehaa.Plain
