/- Plain laws of changes of a table: one change as the reference makes it; many. -/
import Derived.Test.YtnjidfgjldkkcaaPlNext
import Derived.Test.YtnjidfgjldkkcaaPlSort
import Derived.Test.YtnjidfgjldkkcaaQFt
import Derived.Test.YtnjidfgjldkkcaaQRa2
namespace Go.Proofs.Ytnjidfgjldkkcaa.Plain
open Go.RowKit Go.Proofs.Ytnjidfgjldkkcaa.Q Go.Proofs.YtnjidfgjldkkcaaW.PrintWords
/-- A row more or less, as the reference walks: inn: it is in already. -/
def insW (c : S69) : Bool → List S69 → List S69
  | inn, [] => if inn = true then [] else [c]
  | inn, r :: t => if (!inn && kl c.f0 r.f0) = true then (if r.f0 = c.f0 then c :: insW c true t else c :: r :: insW c true t) else (if r.f0 = c.f0 then insW c inn t else r :: insW c inn t)
def refSet (l : List S69) (c : S69) : List S69 := insW c (decide (c.f1.toList = [])) l
theorem insW_len (c : S69) : ∀ (inn : Bool) (l : List S69), (insW c inn l).length ≤ l.length + 1
  | inn, [] => by unfold insW; split <;> simp
  | inn, r :: t => by
    have h1 := insW_len c true t
    have h2 := insW_len c inn t
    have h3 : (insW c true t).length ≤ t.length := by
      clear h1 h2
      induction t with
      | nil => simp [insW]
      | cons a t ih => unfold insW; simp only [Bool.not_true, Bool.false_and, Bool.false_eq_true, if_false]; split <;> simp <;> omega
    unfold insW
    repeat' split
    all_goals simp only [List.length_cons]; omega
theorem insW_true (c : S69) : ∀ l : List S69, (∀ r ∈ l, kl c.f0 r.f0 = true) → insW c true l = l
  | [], _ => by simp [insW]
  | r :: t, h => by
    have h1 := h r (by simp)
    have hne : ¬ r.f0 = c.f0 := fun e => by rw [e, kl_irr] at h1; cases h1
    unfold insW
    simp only [Bool.not_true, Bool.false_and, Bool.false_eq_true, if_false]
    rw [if_neg hne, insW_true c t (fun x hx => h x (by simp [hx]))]
theorem insW_new (c : S69) (l : List S69) (h : ∀ r ∈ l, kl c.f0 r.f0 = true) : insW c false l = c :: l := by
  cases l with
  | nil => simp [insW]
  | cons r t =>
    have h1 := h r (by simp)
    have hne : ¬ r.f0 = c.f0 := fun e => by rw [e, kl_irr] at h1; cases h1
    unfold insW
    rw [if_pos (by rw [h1]; rfl), if_neg hne, insW_true c t (fun x hx => h x (by simp [hx]))]
theorem cut_cons_true {r : S69} {t : List S69} {k : ByteArray} (h : kl r.f0 k = true) : cut (r :: t) k = cut t k + 1 := by
  unfold cut; rw [List.takeWhile_cons, if_pos h, List.length_cons]
theorem cut_cons_false {r : S69} {t : List S69} {k : ByteArray} (h : ¬ kl r.f0 k = true) : cut (r :: t) k = 0 := by
  unfold cut; rw [List.takeWhile_cons, if_neg h]; rfl
theorem placeB_false {l : List S69} (ha : Asc l) {k : ByteArray} (h : ¬ ∃ h : cut l k < l.length, l[cut l k].f0 = k) : placeB l k = false := Bool.eq_false_iff.2 fun e => h ((placeB_iff ha k).1 e)
theorem stepR_cons {r : S69} {t : List S69} (ha : Asc (r :: t)) (c : S69) (h : kl r.f0 c.f0 = true) : stepR (r :: t) c = r :: stepR t c := by
  have hat := List.Pairwise.of_cons ha
  have hc := cut_cons_true (t := t) h
  have hb : placeB (r :: t) c.f0 = placeB t c.f0 := by
    rw [Bool.eq_iff_iff, placeB_iff ha, placeB_iff hat]
    constructor
    · rintro ⟨h1, h2⟩
      refine ⟨by rw [hc, List.length_cons] at h1; omega, ?_⟩
      simp only [hc, List.getElem_cons_succ] at h2
      exact h2
    · rintro ⟨h1, h2⟩
      refine ⟨by rw [hc, List.length_cons]; omega, ?_⟩
      simp only [hc, List.getElem_cons_succ]
      exact h2
  unfold stepR
  rw [hb, placeI_cut ha, placeI_cut hat, hc]
  split
  · split
    · rfl
    · rfl
  · split
    · rfl
    · unfold insRow; simp
theorem refSet_step : ∀ (l : List S69), Asc l → ∀ c, refSet l c = stepR l c
  | [], ha, c => by
    have hb : placeB [] c.f0 = false := placeB_false ha (by rintro ⟨h, _⟩; simp at h)
    unfold refSet stepR
    rw [hb, if_neg (by simp)]
    by_cases hu : c.f1.toList = []
    · rw [if_pos hu, decide_eq_true hu]; simp [insW]
    · rw [if_neg hu, decide_eq_false hu, placeI_cut ha]; simp [insW, insRow, cut]
  | r :: t, ha, c => by
    have hat := List.Pairwise.of_cons ha
    have hr := (List.pairwise_cons.1 ha).1
    by_cases h1 : kl r.f0 c.f0 = true
    · rw [stepR_cons ha c h1, ← refSet_step t hat c]
      have h2 := kl_asym h1
      have hne : ¬ r.f0 = c.f0 := fun e => by rw [e, kl_irr] at h1; cases h1
      unfold refSet
      conv => lhs; unfold insW
      rw [h2, Bool.and_false, if_neg (by simp), if_neg hne]
    · have h0 := cut_cons_false (t := t) h1
      by_cases h2 : r.f0 = c.f0
      · have hb : placeB (r :: t) c.f0 = true := (placeB_iff ha _).2 ⟨by rw [h0]; simp, by simp only [h0, List.getElem_cons_zero]; exact h2⟩
        have ht : ∀ x ∈ t, kl c.f0 x.f0 = true := fun x hx => h2 ▸ hr x hx
        have hk : kl c.f0 r.f0 = false := by rw [h2]; exact kl_irr _
        unfold refSet stepR
        rw [if_pos hb, placeI_cut ha, h0]
        unfold insW
        rw [hk, Bool.and_false, if_neg (by simp), if_pos h2]
        by_cases hu : c.f1.toList = []
        · rw [if_pos hu, decide_eq_true hu, insW_true c t ht]; rfl
        · rw [if_neg hu, decide_eq_false hu, insW_new c t ht]; rfl
      · have hk : kl c.f0 r.f0 = true := by
          cases hk : kl c.f0 r.f0
          · exact absurd (kl_tri (Bool.eq_false_iff.2 h1) hk) h2
          · rfl
        have ht : ∀ x ∈ t, kl c.f0 x.f0 = true := fun x hx => kl_trans hk (hr x hx)
        have hb : placeB (r :: t) c.f0 = false := placeB_false ha (by rintro ⟨h, e⟩; simp only [h0, List.getElem_cons_zero] at e; exact h2 e)
        unfold refSet stepR
        rw [hb, if_neg (by simp), placeI_cut ha, h0]
        by_cases hu : c.f1.toList = []
        · rw [if_pos hu, decide_eq_true hu, insW_true c _ (by intro x hx; rcases List.mem_cons.1 hx with rfl | hx; exact hk; exact ht x hx)]
        · rw [if_neg hu, decide_eq_false hu, insW_new c _ (by intro x hx; rcases List.mem_cons.1 hx with rfl | hx; exact hk; exact ht x hx)]; rfl
theorem insW_mem (c : S69) : ∀ (inn : Bool) (l : List S69) (x : S69), x ∈ insW c inn l → x = c ∨ x ∈ l
  | inn, [], x, h => by unfold insW at h; split at h <;> simp at h; exact .inl h
  | inn, r :: t, x, h => by
    unfold insW at h
    repeat' split at h
    all_goals simp only [List.mem_cons] at h ⊢
    · rcases h with h | h
      · exact .inl h
      · rcases insW_mem c true t x h with h | h
        · exact .inl h
        · exact .inr (.inr h)
    · rcases h with h | h | h
      · exact .inl h
      · exact .inr (.inl h)
      · rcases insW_mem c true t x h with h | h
        · exact .inl h
        · exact .inr (.inr h)
    · rcases insW_mem c inn t x h with h | h
      · exact .inl h
      · exact .inr (.inr h)
    · rcases h with h | h
      · exact .inr (.inl h)
      · rcases insW_mem c inn t x h with h | h
        · exact .inl h
        · exact .inr (.inr h)
theorem stepR_asc : ∀ (l : List S69), Asc l → ∀ c, Asc (stepR l c)
  | [], ha, c => by
    rw [← refSet_step [] ha c]
    unfold refSet insW
    split
    · exact List.Pairwise.nil
    · exact List.pairwise_singleton _ _
  | r :: t, ha, c => by
    have hat := List.Pairwise.of_cons ha
    have hr := (List.pairwise_cons.1 ha).1
    by_cases h1 : kl r.f0 c.f0 = true
    · rw [stepR_cons ha c h1]
      refine List.Pairwise.cons (fun x hx => ?_) (stepR_asc t hat c)
      rw [← refSet_step t hat c] at hx
      rcases insW_mem c _ t x hx with rfl | hx
      · exact h1
      · exact hr x hx
    · rw [← refSet_step _ ha c]
      by_cases h2 : r.f0 = c.f0
      · have ht : ∀ x ∈ t, kl c.f0 x.f0 = true := fun x hx => h2 ▸ hr x hx
        have hk : kl c.f0 r.f0 = false := by rw [h2]; exact kl_irr _
        unfold refSet insW
        rw [hk, Bool.and_false, if_neg (by simp), if_pos h2]
        cases decide (c.f1.toList = [])
        · rw [insW_new c t ht]; exact List.Pairwise.cons ht hat
        · rw [insW_true c t ht]; exact hat
      · have hk : kl c.f0 r.f0 = true := by
          cases hk : kl c.f0 r.f0
          · exact absurd (kl_tri (Bool.eq_false_iff.2 h1) hk) h2
          · rfl
        have ht : ∀ x ∈ r :: t, kl c.f0 x.f0 = true := by
          intro x hx
          rcases List.mem_cons.1 hx with rfl | hx
          · exact hk
          · exact kl_trans hk (hr x hx)
        unfold refSet
        cases decide (c.f1.toList = [])
        · rw [insW_new c _ ht]; exact List.Pairwise.cons ht ha
        · rw [insW_true c _ ht]; exact ha
theorem changed_asc : ∀ (cs l : List S69), Asc l → Asc (changedF l cs)
  | [], _, h => h
  | c :: t, l, h => changed_asc t (stepR l c) (stepR_asc l h c)
theorem tl_eq {a b : ByteArray} : a.toList = b.toList ↔ a = b := toList_inj
theorem set_l0 (c : S69) (l : List S69) (hl : l.length ≤ 1000000) : ∀ (d i : Nat) (x : List S69) (inn : Bool), i + d = l.length → x.length ≤ 2 * i + 1 →
    Ev (fun n => bagnallref_rowsSet.l0 n x inn l (l.length : Int) (i : Int) c.f0 c.f1) (x ++ insW c inn (l.drop i))
  | 0, i, x, inn, hi, hx => by
    rw [List.drop_of_length_le (by omega)]
    refine Ev.step (fun k => rfl) (Ev.neg (by omega) ?_)
    cases inn
    · exact Ev.neg (by simp) (Ev.pos (by omega) (Ev.to (Ev.now _) (by simp [insW])))
    · exact Ev.pos rfl (Ev.to (Ev.now _) (by simp [insW]))
  | d + 1, i, x, inn, hi, hx => by
    have hlt : i < l.length := by omega
    have e2 : wrap64 ((i : Int) + 1) = ((i + 1 : Nat) : Int) := wrap_succ (by omega)
    rw [List.drop_eq_getElem_cons hlt]
    have hj : ∀ b : Bool, b = (!inn && kl c.f0 l[i].f0) → Ev (fun n => bagnallref_rowsSet.j1 n x inn l (l.length : Int) (i : Int) b c.f0 c.f1 l[i].f0 l[i].f1) (x ++ insW c inn (l[i] :: l.drop (i + 1))) := by
      intro b hb
      refine Ev.step (fun k => rfl) ?_
      unfold insW
      rw [← hb]
      cases b
      · rw [if_neg (by simp)]
        by_cases h : l[i].f0 = c.f0
        · rw [if_pos h]
          refine Ev.pos (tl_eq.2 h) ?_
          rw [e2]
          exact set_l0 c l hl d (i + 1) x inn (by omega) (by omega)
        · rw [if_neg h]
          refine Ev.neg (fun e => h (tl_eq.1 e)) (Ev.pos (by omega) ?_)
          rw [e2]
          exact Ev.to (set_l0 c l hl d (i + 1) (x ++ [l[i]]) inn (by omega) (by simp; omega)) (by rw [List.append_assoc]; rfl)
      · rw [if_pos rfl]
        refine Ev.pos (by omega) (Ev.bind (Ev.lift (r := x ++ [c]) rfl) ?_)
        by_cases h : l[i].f0 = c.f0
        · rw [if_pos h]
          refine Ev.pos (tl_eq.2 h) ?_
          rw [e2]
          exact Ev.to (set_l0 c l hl d (i + 1) (x ++ [c]) true (by omega) (by simp; omega)) (by rw [List.append_assoc]; rfl)
        · rw [if_neg h]
          refine Ev.neg (fun e => h (tl_eq.1 e)) (Ev.pos (by simp; omega) ?_)
          rw [e2]
          exact Ev.to (set_l0 c l hl d (i + 1) (x ++ [c] ++ [l[i]]) true (by omega) (by simp; omega)) (by rw [List.append_assoc, List.append_assoc]; rfl)
    refine Ev.step (fun k => rfl) (Ev.pos (by omega) (Ev.pos (by omega) (Ev.pos (by omega) ?_)))
    rw [rd69 hlt]
    cases inn
    · exact Ev.neg (by simp) (hj _ rfl)
    · exact Ev.pos rfl (hj _ rfl)
theorem set_ev (l : List S69) (c : S69) (hl : l.length ≤ 1000000) : Ev (fun n => bagnallref_rowsSet.f n l c.f0 c.f1) (refSet l c) := by
  unfold bagnallref_rowsSet.f refSet
  have h := set_l0 c l hl l.length 0 [] (c.f1.toList == []) (by omega) (by simp)
  rw [List.drop_zero, List.nil_append] at h
  have e : decide (c.f1.toList = []) = (c.f1.toList == []) := by
    rw [Bool.eq_iff_iff, decide_eq_true_eq, beq_iff_eq]
  rw [e]
  exact h
/-- What the reference says of changes. -/
def chgF (l cs : List S69) : List S69 × Int := if faultF l cs ≠ 0 then ([], faultF l cs) else (changedF l cs, 0)
theorem chg_l0 (cs : List S69) (hc : cs.length ≤ 60) : ∀ (d i : Nat) (now : List S69), i + d = cs.length → Asc now → now.length ≤ 1000 + i →
    Ev (fun n => bagnallref_rowsChanges.l0 n now cs (cs.length : Int) (i : Int)) (if (cs.drop i).any oddR = true then ([], 1) else if 40 < (changedF now (cs.drop i)).length then ([], 10) else (changedF now (cs.drop i), 0))
  | 0, i, now, hi, _, hn => by
    rw [List.drop_of_length_le (by omega)]
    refine Ev.step (fun k => rfl) (Ev.neg (by omega) ?_)
    show Ev _ (if 40 < now.length then ([], 10) else (now, 0))
    by_cases h : 40 < now.length
    · rw [if_pos h]; exact Ev.pos (by omega) (Ev.now _)
    · rw [if_neg h]; exact Ev.neg (by omega) (Ev.now _)
  | d + 1, i, now, hi, ha, hn => by
    have hlt : i < cs.length := by omega
    have e2 : wrap64 ((i : Int) + 1) = ((i + 1 : Nat) : Int) := wrap_succ (by omega)
    rw [List.drop_eq_getElem_cons hlt]
    refine Ev.step (fun k => rfl) (Ev.pos (by omega) (Ev.pos (by omega) (Ev.pos (by omega) ?_)))
    rw [rd69 hlt, e2]
    have ho : oddR cs[i] = decide (cs[i].f0.size < 1 ∨ 20 < cs[i].f0.size ∨ 20 < cs[i].f1.size) := rfl
    rw [List.any_cons]
    by_cases h1 : cs[i].f0.size < 1
    · rw [if_pos (by rw [ho, decide_eq_true (by omega)]; rfl)]
      exact Ev.pos (by omega) (Ev.now _)
    refine Ev.neg (by omega) ?_
    by_cases h2 : 20 < cs[i].f0.size
    · rw [if_pos (by rw [ho, decide_eq_true (by omega)]; rfl)]
      exact Ev.pos (by omega) (Ev.now _)
    refine Ev.neg (by omega) ?_
    by_cases h3 : 20 < cs[i].f1.size
    · rw [if_pos (by rw [ho, decide_eq_true (by omega)]; rfl)]
      exact Ev.pos (by omega) (Ev.now _)
    refine Ev.neg (by omega) ?_
    have hodd : oddR cs[i] = false := by rw [ho]; exact decide_eq_false (by omega)
    rw [hodd, Bool.false_or]
    have hs := set_ev now cs[i] (by omega)
    rw [refSet_step now ha] at hs
    have hsl := stepR_len now cs[i]
    exact Ev.bind hs (chg_l0 cs hc d (i + 1) (stepR now cs[i]) (by omega) (stepR_asc now ha _) (by omega))
theorem chg_ev (l cs : List S69) (ha : Asc l) (hl : l.length ≤ 1000) : Ev (fun n => bagnallref_rowsChanges.f n l cs) (chgF l cs) := by
  unfold bagnallref_rowsChanges.f chgF faultF
  by_cases h0 : 60 < cs.length
  · rw [if_pos h0, if_pos (by omega)]
    exact Ev.pos (by omega) (Ev.now _)
  rw [if_neg h0]
  refine Ev.neg (by omega) ?_
  have h := chg_l0 cs (by omega) cs.length 0 l (by omega) ha (by omega)
  rw [List.drop_zero] at h
  refine Ev.to h ?_
  by_cases h1 : cs.any oddR = true
  · rw [if_pos h1, if_pos h1, if_pos (by omega)]
  rw [if_neg h1, if_neg h1]
  by_cases h2 : 40 < (changedF l cs).length
  · rw [if_pos h2, if_pos h2, if_pos (by omega)]
  · rw [if_neg h2, if_neg h2, if_neg (by omega)]
theorem refRowsSet_ev (l cs : List S69) : Ev (fun n => bagnallref_RowsSet.f n l cs) (setF l cs) := by
  unfold bagnallref_RowsSet.f setF
  refine Ev.bind (fault_ev l) ?_
  by_cases h : rowsErr l = 0
  · rw [if_neg (by omega)]
    obtain ⟨hl, _, ha⟩ := rowsErr_zero h
    exact Ev.pos h (Ev.bind (chg_ev l cs ha (by omega)) (Ev.now _))
  · rw [if_pos h]
    exact Ev.neg h (Ev.now _)
theorem setF_len (l cs : List S69) : (setF l cs).1.length ≤ 1000 := by
  unfold setF
  split
  · simp
  · split
    · simp
    · rename_i h1 h2
      have := rowsErr_len (Decidable.not_not.1 h1)
      have h3 := changedF_len l cs
      have h4 : cs.length ≤ 60 := by
        replace h2 := Decidable.not_not.1 h2
        unfold faultF at h2
        by_cases hh : 60 < cs.length
        · rw [if_pos hh] at h2; omega
        · omega
      show (changedF l cs).length ≤ _
      omega
end Go.Proofs.Ytnjidfgjldkkcaa.Plain
