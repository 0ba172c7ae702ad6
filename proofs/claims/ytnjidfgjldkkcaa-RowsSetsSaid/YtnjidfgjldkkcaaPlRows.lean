/- Plain laws of package rows: what Check and its reference answer of a table. -/
import Derived.Test.YtnjidfgjldkkcaaQRa1
import Derived.Test.YtnjidfgjldkkcaaEv
namespace Go.Proofs.Ytnjidfgjldkkcaa.Plain
open Go.RowKit Go.Proofs.Ytnjidfgjldkkcaa.Q Go.Proofs.YtnjidfgjldkkcaaW.PrintWords

/-- The fault of the rows behind a row with the key p. -/
def faultFrom : Option ByteArray → List S69 → Int
  | _, [] => 0
  | p, r :: t => if r.f0.size < 1 ∨ 20 < r.f0.size ∨ 20 < r.f1.size then 1 else if r.f1.size = 0 then 4 else
      if (match p with | none => true | some q => Op.bytesLess q.toList r.f0.toList) = true then faultFrom (some r.f0) t else 7
/-- The fault of a table. -/
def rowsErr (l : List S69) : Int := if 40 < l.length then 1 else faultFrom none l
def prevOf (l : List S69) (i : Nat) : Option ByteArray := if i = 0 then none else (l[i - 1]?).map (·.f0)

theorem rd69 {l : List S69} {i : Nat} (h : i < l.length) : rd_T69 l (i : Int) = l[i] := getD_at h

theorem key_f (a : ByteArray) : rows_key.f a = some (decide (¬ (a.size < 1 ∨ 20 < a.size))) := by
  unfold rows_key.f
  by_cases h : a.size = 0
  · rw [if_pos (empty_iff.2 h), decide_eq_false (by omega)]
  · rw [if_neg (fun e => h (empty_iff.1 e))]
    congr 1
    by_cases h2 : (a.size : Int) ≤ 20
    · rw [decide_eq_true h2, decide_eq_true (by omega)]
    · rw [decide_eq_false h2, decide_eq_false (by omega)]

theorem check_tail (l : List S69) (i : Nat) (hi : i < l.length) (b : Bool) (hb : b = decide (l[i].f0.size < 1 ∨ 20 < l[i].f0.size ∨ 20 < l[i].f1.size)) (hl : l.length ≤ 40)
    (ih : Ev (fun k => rows_Check.l0 k l l (l.length : Int) ((i + 1 : Nat) : Int)) (faultFrom (some l[i].f0) (l.drop (i + 1)))) :
    Ev (fun k => rows_Check.j1 k l (i : Int) l (l.length : Int) (i : Int) b l[i].f0 l[i].f1) (faultFrom (prevOf l i) (l.drop i)) := by
  rw [List.drop_eq_getElem_cons hi]
  unfold faultFrom
  refine Ev.step (fun k => rfl) ?_
  by_cases h : l[i].f0.size < 1 ∨ 20 < l[i].f0.size ∨ 20 < l[i].f1.size
  · rw [if_pos h]
    exact Ev.pos (by rw [hb, decide_eq_true h]) (Ev.now _)
  rw [if_neg h]
  refine Ev.neg (by rw [hb, decide_eq_false h]; simp) ?_
  by_cases h4 : l[i].f1.size = 0
  · rw [if_pos h4]
    exact Ev.pos (empty_iff.2 h4) (Ev.now _)
  rw [if_neg h4]
  refine Ev.neg (fun e => h4 (empty_iff.1 e)) ?_
  have e2 : wrap64 ((i : Int) + 1) = ((i + 1 : Nat) : Int) := wrap_succ (by omega)
  by_cases h0 : i = 0
  · subst h0
    refine Ev.neg (by omega) ?_
    rw [e2]
    simpa [prevOf] using ih
  · have e1 : wrap64 ((i : Int) - 1) = ((i - 1 : Nat) : Int) := by rw [wrap_in (by omega) (by omega)]; omega
    have hp : prevOf l i = some l[i - 1].f0 := by unfold prevOf; rw [if_neg h0, List.getElem?_eq_getElem (by omega)]; rfl
    rw [hp, e1, rd69 (by omega : i - 1 < l.length), e2]
    refine Ev.pos (by omega) (Ev.pos (by omega) (Ev.pos (by omega) ?_))
    by_cases hb7 : Op.bytesLess l[i - 1].f0.toList l[i].f0.toList = true
    · rw [if_pos hb7]
      exact Ev.pos hb7 ih
    · rw [if_neg hb7]
      exact Ev.neg hb7 (Ev.now _)

theorem check_l0 (l : List S69) (hl : l.length ≤ 40) : ∀ (d i : Nat), i + d = l.length → Ev (fun k => rows_Check.l0 k l l (l.length : Int) (i : Int)) (faultFrom (prevOf l i) (l.drop i))
  | 0, i, hi => by
    rw [List.drop_of_length_le (by omega)]
    exact Ev.step (fun k => rfl) (Ev.neg (by omega) (Ev.now _))
  | d + 1, i, hi => by
    have hlt : i < l.length := by omega
    have ih := check_l0 l hl d (i + 1) (by omega)
    have hp : prevOf l (i + 1) = some l[i].f0 := by unfold prevOf; rw [if_neg (by omega), Nat.add_sub_cancel, List.getElem?_eq_getElem hlt]; rfl
    rw [hp] at ih
    refine Ev.step (fun k => rfl) (Ev.pos (by omega) (Ev.pos (by omega) (Ev.pos (by omega) ?_)))
    rw [rd69 hlt]
    refine Ev.bind (Ev.lift (key_f _)) ?_
    by_cases h : l[i].f0.size < 1 ∨ 20 < l[i].f0.size
    · rw [decide_eq_false (fun hn => hn h)]
      exact Ev.neg (by simp) (check_tail l i hlt true (by rw [decide_eq_true (by omega)]) hl ih)
    · rw [decide_eq_true h]
      refine Ev.pos rfl (check_tail l i hlt _ ?_ hl ih)
      by_cases h2 : 20 < l[i].f1.size
      · rw [decide_eq_true (by omega), decide_eq_true (by omega)]
      · rw [decide_eq_false (by omega), decide_eq_false (by omega)]
theorem check_ev (l : List S69) : Ev (fun k => rows_Check.f k l) (rowsErr l) := by
  unfold rows_Check.f rowsErr
  by_cases h : 40 < l.length
  · rw [if_pos h]; exact Ev.pos (by omega) (Ev.now _)
  · rw [if_neg h]
    exact Ev.neg (by omega) (check_l0 l (by omega) l.length 0 (by omega))

theorem fault_tail (l : List S69) (i : Nat) (hi : i < l.length) (b : Bool) (hb : b = decide (l[i].f0.size < 1 ∨ 20 < l[i].f0.size ∨ 20 < l[i].f1.size)) (hl : l.length ≤ 40)
    (ih : Ev (fun k => bagnallref_RowsFault.l0 k l l (l.length : Int) ((i + 1 : Nat) : Int)) (faultFrom (some l[i].f0) (l.drop (i + 1)))) :
    Ev (fun k => bagnallref_RowsFault.j1 k l (i : Int) l (l.length : Int) (i : Int) b l[i].f0 l[i].f1) (faultFrom (prevOf l i) (l.drop i)) := by
  rw [List.drop_eq_getElem_cons hi]
  unfold faultFrom
  refine Ev.step (fun k => rfl) ?_
  by_cases h : l[i].f0.size < 1 ∨ 20 < l[i].f0.size ∨ 20 < l[i].f1.size
  · rw [if_pos h]
    exact Ev.pos (by rw [hb, decide_eq_true h]) (Ev.now _)
  rw [if_neg h]
  refine Ev.neg (by rw [hb, decide_eq_false h]; simp) ?_
  by_cases h4 : l[i].f1.size = 0
  · rw [if_pos h4]
    exact Ev.pos (by omega) (Ev.now _)
  rw [if_neg h4]
  refine Ev.neg (by omega) ?_
  have e2 : wrap64 ((i : Int) + 1) = ((i + 1 : Nat) : Int) := wrap_succ (by omega)
  by_cases h0 : i = 0
  · subst h0
    refine Ev.neg (by omega) ?_
    rw [e2]
    simpa [prevOf] using ih
  · have e1 : wrap64 ((i : Int) - 1) = ((i - 1 : Nat) : Int) := by rw [wrap_in (by omega) (by omega)]; omega
    have hp : prevOf l i = some l[i - 1].f0 := by unfold prevOf; rw [if_neg h0, List.getElem?_eq_getElem (by omega)]; rfl
    rw [hp, e1, rd69 (by omega : i - 1 < l.length), e2]
    refine Ev.pos (by omega) (Ev.pos (by omega) (Ev.pos (by omega) ?_))
    by_cases hb7 : Op.bytesLess l[i - 1].f0.toList l[i].f0.toList = true
    · rw [if_pos hb7]
      exact Ev.pos hb7 ih
    · rw [if_neg hb7]
      exact Ev.neg hb7 (Ev.now _)
theorem fault_l0 (l : List S69) (hl : l.length ≤ 40) : ∀ (d i : Nat), i + d = l.length → Ev (fun k => bagnallref_RowsFault.l0 k l l (l.length : Int) (i : Int)) (faultFrom (prevOf l i) (l.drop i))
  | 0, i, hi => by
    rw [List.drop_of_length_le (by omega)]
    exact Ev.step (fun k => rfl) (Ev.neg (by omega) (Ev.now _))
  | d + 1, i, hi => by
    have hlt : i < l.length := by omega
    have ih := fault_l0 l hl d (i + 1) (by omega)
    have hp : prevOf l (i + 1) = some l[i].f0 := by unfold prevOf; rw [if_neg (by omega), Nat.add_sub_cancel, List.getElem?_eq_getElem hlt]; rfl
    rw [hp] at ih
    refine Ev.step (fun k => rfl) (Ev.pos (by omega) (Ev.pos (by omega) (Ev.pos (by omega) ?_)))
    rw [rd69 hlt]
    by_cases h : l[i].f0.size < 1
    · exact Ev.pos (by omega) (fault_tail l i hlt true (by rw [decide_eq_true (by omega)]) hl ih)
    refine Ev.neg (by omega) ?_
    by_cases h2 : 20 < l[i].f0.size
    · exact Ev.pos (by omega) (fault_tail l i hlt true (by rw [decide_eq_true (by omega)]) hl ih)
    refine Ev.neg (by omega) (fault_tail l i hlt _ ?_ hl ih)
    by_cases h3 : 20 < l[i].f1.size
    · rw [decide_eq_true (by omega), decide_eq_true (by omega)]
    · rw [decide_eq_false (by omega), decide_eq_false (by omega)]
theorem fault_ev (l : List S69) : Ev (fun k => bagnallref_RowsFault.f k l) (rowsErr l) := by
  unfold bagnallref_RowsFault.f rowsErr
  by_cases h : 40 < l.length
  · rw [if_pos h]; exact Ev.pos (by omega) (Ev.now _)
  · rw [if_neg h]
    exact Ev.neg (by omega) (fault_l0 l (by omega) l.length 0 (by omega))
end Go.Proofs.Ytnjidfgjldkkcaa.Plain
