/- Plain laws of out: what a turn does; Wait. -/
import Derived.Test.YtjceapbbapofmaaQOw1
import Derived.Test.YtjceapbbapofmaaQT
import Derived.Test.YtjceapbbapofmaaWNEv
namespace Go.Proofs.Ytjceapbbapofmaa.Plain
open Go.RowKit Go.Proofs.Ytjceapbbapofmaa.Q Go.Proofs.YtjceapbbapofmaaW.PrintWords Go.Proofs.YtjceapbbapofmaaW.PrintLast
/-- What is to go. -/
structure OSt where
  items : List ByteArray
  size : Nat
  batch : Nat
  away : Bool
  fails : Nat
  clock : Nat
  frm : Nat
def o0 : OSt := ⟨[], 0, 0, false, 0, 0, 0⟩
/-- Wait behind failures. -/
def waitF (n : Nat) : Nat := if n < 1 then 0 else if 4 < n then 16 else 2 ^ (n - 1)
theorem waitF_le (n : Nat) : waitF n ≤ 16 := by
  unfold waitF
  split
  · omega
  split
  · omega
  · have : n = 1 ∨ n = 2 ∨ n = 3 ∨ n = 4 := by omega
    rcases this with rfl | rfl | rfl | rfl <;> decide
def pushF (s : OSt) (u : ByteArray) : Int × OSt :=
  if u.size < 1 ∨ 20 < u.size then (1, s) else if s.items.length = 60 then (10, s) else (0, { s with items := s.items ++ [u] })
def tickF (s : OSt) (n : Nat) : (Nat × List ByteArray) × OSt :=
  if s.away = true ∨ s.items = [] ∨ s.clock + n < s.frm then ((0, []), { s with clock := s.clock + n })
  else if s.size = 0 then ((s.batch + 1, s.items.take (min s.items.length 4)), { s with clock := s.clock + n, size := min s.items.length 4, batch := s.batch + 1, away := true })
  else ((s.batch, s.items.take s.size), { s with clock := s.clock + n, away := true })
def endF (s : OSt) (b : Int) (came : Bool) : Int × OSt :=
  if s.away = false ∨ b ≠ (s.batch : Int) then (8, s)
  else if came = false then (0, { s with away := false, fails := s.fails + 1, frm := s.clock + waitF (s.fails + 1) })
  else (0, { s with away := false, items := s.items.drop s.size, size := 0, fails := 0, frm := s.clock })
/-- What a turn tells, and what is then. -/
def turnF (s : OSt) (t : S72) : S34 × OSt :=
  if t.f0 = 1 then (⟨(pushF s t.f1).1, 0, []⟩, (pushF s t.f1).2)
  else if t.f0 = 2 then (if t.f2 < 1 ∨ 1000 < t.f2 then (⟨2, 0, []⟩, s) else (⟨0, ((tickF s t.f2.toNat).1.1 : Int), (tickF s t.f2.toNat).1.2⟩, (tickF s t.f2.toNat).2))
  else if t.f0 = 3 ∨ t.f0 = 4 then (⟨(endF s t.f2 (decide (t.f0 = 3))).1, 0, []⟩, (endF s t.f2 (decide (t.f0 = 3))).2)
  else (⟨3, 0, []⟩, s)
def turnsF : List S72 → OSt → List S34
  | [], _ => []
  | t :: l, s => (turnF s t).1 :: turnsF l (turnF s t).2
def oplayF (l : List S72) : List S34 × Int := if 100 < l.length then ([], 1) else (turnsF l o0, 0)
/-- How great it all may be behind k turns. -/
structure OInv (s : OSt) (k : Nat) : Prop where
  items : s.items.length ≤ 60
  size : s.size ≤ s.items.length
  batch : s.batch ≤ k
  fails : s.fails ≤ k
  clock : s.clock ≤ 1000 * k
  frm : s.frm ≤ 1000 * k + 16
theorem o0_inv : OInv o0 0 := ⟨by simp [o0], by simp [o0], by simp [o0], by simp [o0], by simp [o0], by simp [o0]⟩
theorem turnF_inv {s : OSt} {k : Nat} (h : OInv s k) (t : S72) : OInv (turnF s t).2 (k + 1) := by
  obtain ⟨h1, h2, h3, h4, h5, h6⟩ := h
  have h0 : OInv s (k + 1) := ⟨h1, h2, by omega, by omega, by omega, by omega⟩
  unfold turnF
  split
  · unfold pushF
    split
    · exact h0
    split
    · exact h0
    · exact ⟨by simp only [List.length_append, List.length_singleton]; omega, by simp only [List.length_append, List.length_singleton]; omega, h0.batch, h0.fails, h0.clock, h0.frm⟩
  split
  · split
    · exact h0
    · rename_i hn
      unfold tickF
      split
      · exact ⟨h1, h2, h0.batch, h0.fails, by simp only; omega, h0.frm⟩
      split
      · exact ⟨h1, by simp only; omega, by simp only; omega, h0.fails, by simp only; omega, h0.frm⟩
      · exact ⟨h1, h2, h0.batch, h0.fails, by simp only; omega, h0.frm⟩
  split
  · unfold endF
    split
    · exact h0
    split
    · have := waitF_le (s.fails + 1)
      exact ⟨h1, h2, h0.batch, by simp only; omega, h0.clock, by simp only; omega⟩
    · exact ⟨by simp only [List.length_drop]; omega, by simp only [List.length_drop]; omega, h0.batch, by simp only; omega, h0.clock, by simp only; omega⟩
  · exact h0
theorem turns_next {l : List S72} {s : OSt} {i : Nat} {out R : List S34} (h : out ++ turnsF (l.drop i) s = R) (hi : i < l.length) :
    (out ++ [(turnF s (rd_T72 l i)).1]) ++ turnsF (l.drop (i + 1)) (turnF s (rd_T72 l i)).2 = R := by
  have hr : rd_T72 l i = l[i] := by
    unfold rd_T72
    rw [Int.toNat_natCast, List.getD_eq_getElem?_getD, List.getElem?_eq_getElem hi]; rfl
  rw [← h, List.drop_eq_getElem_cons hi, hr]
  simp only [turnsF, List.append_assoc, List.singleton_append]
theorem wait_ev (n : Nat) : ∃ k, out_Wait.f k (n : Int) = some ((waitF n : Nat) : Int) := by
  have : n = 0 ∨ n = 1 ∨ n = 2 ∨ n = 3 ∨ n = 4 ∨ 5 ≤ n := by omega
  rcases this with rfl | rfl | rfl | rfl | rfl | h
  · exact ⟨2, by decide +kernel⟩
  · exact ⟨3, by decide +kernel⟩
  · exact ⟨4, by decide +kernel⟩
  · exact ⟨5, by decide +kernel⟩
  · exact ⟨6, by decide +kernel⟩
  · refine ⟨6, ?_⟩
    have hw : waitF n = 16 := by unfold waitF; rw [if_neg (by omega), if_pos (by omega)]
    rw [hw]
    unfold out_Wait.f
    simp only [out_Wait.l0]
    have e0 : wrap64 (0 + 1) = 1 := by decide +kernel
    have e1 : wrap64 (1 + 1) = 2 := by decide +kernel
    have e2 : wrap64 (2 + 1) = 3 := by decide +kernel
    have e3 : wrap64 (3 + 1) = 4 := by decide +kernel
    have e4 : wrap64 (4 + 1) = 5 := by decide +kernel
    have m0 : mx 1 (wrap64 (2 * 0)) = 1 := by decide +kernel
    have m1 : mx 1 (wrap64 (2 * 1)) = 2 := by decide +kernel
    have m2 : mx 1 (wrap64 (2 * 2)) = 4 := by decide +kernel
    have m3 : mx 1 (wrap64 (2 * 4)) = 8 := by decide +kernel
    have m4 : mx 1 (wrap64 (2 * 8)) = 16 := by decide +kernel
    rw [if_pos (by omega), if_pos (by omega), e0, m0, if_pos (by omega), if_pos (by omega), e1, m1, if_pos (by omega), if_pos (by omega), e2, m2, if_pos (by omega), if_pos (by omega), e3, m3, if_pos (by omega), if_pos (by omega), e4, m4, if_neg (show ¬ (16 : Int) < 16 by omega)]
    split <;> rfl
theorem refWait_ev (n : Nat) : bagnallref_OutWait.f (n : Int) = some ((waitF n : Nat) : Int) := by
  have : n = 0 ∨ n = 1 ∨ n = 2 ∨ n = 3 ∨ n = 4 ∨ 5 ≤ n := by omega
  rcases this with rfl | rfl | rfl | rfl | rfl | h
  · decide +kernel
  · decide +kernel
  · decide +kernel
  · decide +kernel
  · decide +kernel
  · have hw : waitF n = 16 := by unfold waitF; rw [if_neg (by omega), if_pos (by omega)]
    rw [hw]
    unfold bagnallref_OutWait.f
    rw [if_neg (by omega), if_pos (by omega)]
    rfl
end Go.Proofs.Ytjceapbbapofmaa.Plain
