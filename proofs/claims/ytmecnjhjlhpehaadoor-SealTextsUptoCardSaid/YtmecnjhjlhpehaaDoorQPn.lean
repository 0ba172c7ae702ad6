/- json.plain, walked by hand. Printed by a program of this session. -/
import Derived.Test.YtmecnjhjlhpehaaDoorQT
namespace Go.Proofs.YtmecnjhjlhpehaaDoor.Q
set_option linter.unusedSimpArgs false
open Go.RowKit Go.Proofs.YtmecnjhjlhpehaaDoorW.PrintWords Go.Proofs.YtmecnjhjlhpehaaDoorW.PrintLast Go.Proofs.YtmecnjhjlhpehaaDoorW.PrintMore
/-- Are the fields empty that a kind does not use? -/
def plainN (a b : Int) (s : ByteArray) (n3 n4 : Nat) : Bool := decide ((a = 4 ∨ b = 0) ∧ (a = 5 ∨ s.toList = []) ∧ (a = 7 ∨ n3 = 0) ∧ (a = 6 ∨ a = 7 ∨ n4 = 0))
theorem len_eq (n : Nat) : ((n : Int) == 0) = decide (n = 0) := by
  by_cases h : n = 0
  · subst h; rfl
  · rw [decide_eq_false h]; simp; omega
set_option maxRecDepth 100000 in
set_option maxHeartbeats 8000000 in
theorem plain_walk (a b : Int) (s : ByteArray) (A3 : Option Addr) (n3 c3 : Nat) (A4 : Option Addr) (n4 c4 : Nat) (w : World) :
    Calls Tryd.prog 19 #[.agg #[.int .i64 a, .int .i64 b, .string s, .slice A3 n3 c3, .slice A4 n4 c4]] w fun e w' => e = .returned (.bool (plainN a b s n3 n4)) ∧ Below w.heap.size w w' := by
  by_cases h_4 : a = 4
  · subst h_4
    by_cases hs : s.toList = []
    · have hsb : (s.toList == ([] : List UInt8)) = true := beq_iff_eq.mpr hs
      by_cases h3 : n3 = 0
      · have h3b : ((n3 : Int) == 0) = true := by rw [len_eq]; exact decide_eq_true h3
        go_enter Tryd.func19, Tryd.ntmps19
        go_wp2
        go_ret
        exact ⟨by simp [plainN, len_eq, *], below_alloc (below_alloc (Below.refl _ _) _) _⟩
      · have h3b : ((n3 : Int) == 0) = false := by rw [len_eq]; exact decide_eq_false h3
        go_enter Tryd.func19, Tryd.ntmps19
        go_wp2
        go_ret
        exact ⟨by simp [plainN, len_eq, *], below_alloc (below_alloc (Below.refl _ _) _) _⟩
    · have hsb : (s.toList == ([] : List UInt8)) = false := beq_eq_false_iff_ne.mpr hs
      go_enter Tryd.func19, Tryd.ntmps19
      go_wp2
      go_ret
      exact ⟨by simp [plainN, len_eq, *], below_alloc (below_alloc (Below.refl _ _) _) _⟩
  by_cases h_5 : a = 5
  · subst h_5
    by_cases hb : b = 0
    · have hbb : (b == 0) = true := beq_iff_eq.mpr hb
      by_cases h3 : n3 = 0
      · have h3b : ((n3 : Int) == 0) = true := by rw [len_eq]; exact decide_eq_true h3
        go_enter Tryd.func19, Tryd.ntmps19
        go_wp2
        go_ret
        exact ⟨by simp [plainN, len_eq, *], below_alloc (below_alloc (Below.refl _ _) _) _⟩
      · have h3b : ((n3 : Int) == 0) = false := by rw [len_eq]; exact decide_eq_false h3
        go_enter Tryd.func19, Tryd.ntmps19
        go_wp2
        go_ret
        exact ⟨by simp [plainN, len_eq, *], below_alloc (below_alloc (Below.refl _ _) _) _⟩
    · have hbb : (b == 0) = false := beq_eq_false_iff_ne.mpr hb
      go_enter Tryd.func19, Tryd.ntmps19
      go_wp2
      go_ret
      exact ⟨by simp [plainN, len_eq, *], below_alloc (below_alloc (Below.refl _ _) _) _⟩
  by_cases h_6 : a = 6
  · subst h_6
    by_cases hb : b = 0
    · have hbb : (b == 0) = true := beq_iff_eq.mpr hb
      by_cases hs : s.toList = []
      · have hsb : (s.toList == ([] : List UInt8)) = true := beq_iff_eq.mpr hs
        by_cases h3 : n3 = 0
        · have h3b : ((n3 : Int) == 0) = true := by rw [len_eq]; exact decide_eq_true h3
          go_enter Tryd.func19, Tryd.ntmps19
          go_wp2
          go_ret
          exact ⟨by simp [plainN, len_eq, *], below_alloc (below_alloc (Below.refl _ _) _) _⟩
        · have h3b : ((n3 : Int) == 0) = false := by rw [len_eq]; exact decide_eq_false h3
          go_enter Tryd.func19, Tryd.ntmps19
          go_wp2
          go_ret
          exact ⟨by simp [plainN, len_eq, *], below_alloc (below_alloc (Below.refl _ _) _) _⟩
      · have hsb : (s.toList == ([] : List UInt8)) = false := beq_eq_false_iff_ne.mpr hs
        go_enter Tryd.func19, Tryd.ntmps19
        go_wp2
        go_ret
        exact ⟨by simp [plainN, len_eq, *], below_alloc (below_alloc (Below.refl _ _) _) _⟩
    · have hbb : (b == 0) = false := beq_eq_false_iff_ne.mpr hb
      go_enter Tryd.func19, Tryd.ntmps19
      go_wp2
      go_ret
      exact ⟨by simp [plainN, len_eq, *], below_alloc (below_alloc (Below.refl _ _) _) _⟩
  by_cases h_7 : a = 7
  · subst h_7
    by_cases hb : b = 0
    · have hbb : (b == 0) = true := beq_iff_eq.mpr hb
      by_cases hs : s.toList = []
      · have hsb : (s.toList == ([] : List UInt8)) = true := beq_iff_eq.mpr hs
        go_enter Tryd.func19, Tryd.ntmps19
        go_wp2
        go_ret
        exact ⟨by simp [plainN, len_eq, *], below_alloc (below_alloc (Below.refl _ _) _) _⟩
      · have hsb : (s.toList == ([] : List UInt8)) = false := beq_eq_false_iff_ne.mpr hs
        go_enter Tryd.func19, Tryd.ntmps19
        go_wp2
        go_ret
        exact ⟨by simp [plainN, len_eq, *], below_alloc (below_alloc (Below.refl _ _) _) _⟩
    · have hbb : (b == 0) = false := beq_eq_false_iff_ne.mpr hb
      go_enter Tryd.func19, Tryd.ntmps19
      go_wp2
      go_ret
      exact ⟨by simp [plainN, len_eq, *], below_alloc (below_alloc (Below.refl _ _) _) _⟩
  have h_4b : (a == 4) = false := beq_eq_false_iff_ne.mpr h_4
  have h_5b : (a == 5) = false := beq_eq_false_iff_ne.mpr h_5
  have h_6b : (a == 6) = false := beq_eq_false_iff_ne.mpr h_6
  have h_7b : (a == 7) = false := beq_eq_false_iff_ne.mpr h_7
  by_cases hb : b = 0
  · have hbb : (b == 0) = true := beq_iff_eq.mpr hb
    by_cases hs : s.toList = []
    · have hsb : (s.toList == ([] : List UInt8)) = true := beq_iff_eq.mpr hs
      by_cases h3 : n3 = 0
      · have h3b : ((n3 : Int) == 0) = true := by rw [len_eq]; exact decide_eq_true h3
        go_enter Tryd.func19, Tryd.ntmps19
        go_wp2
        go_ret
        exact ⟨by simp [plainN, len_eq, *], below_alloc (below_alloc (Below.refl _ _) _) _⟩
      · have h3b : ((n3 : Int) == 0) = false := by rw [len_eq]; exact decide_eq_false h3
        go_enter Tryd.func19, Tryd.ntmps19
        go_wp2
        go_ret
        exact ⟨by simp [plainN, len_eq, *], below_alloc (below_alloc (Below.refl _ _) _) _⟩
    · have hsb : (s.toList == ([] : List UInt8)) = false := beq_eq_false_iff_ne.mpr hs
      go_enter Tryd.func19, Tryd.ntmps19
      go_wp2
      go_ret
      exact ⟨by simp [plainN, len_eq, *], below_alloc (below_alloc (Below.refl _ _) _) _⟩
  · have hbb : (b == 0) = false := beq_eq_false_iff_ne.mpr hb
    go_enter Tryd.func19, Tryd.ntmps19
    go_wp2
    go_ret
    exact ⟨by simp [plainN, len_eq, *], below_alloc (below_alloc (Below.refl _ _) _) _⟩
def json_plain.f (a0_0 : Int) (a0_1 : Int) (a0_2 : ByteArray) (l0_3 : List ByteArray) (l0_4 : List (S25)) : Option (Bool) := some (plainN a0_0 a0_1 a0_2 l0_3.length l0_4.length)
theorem json_plain.calls (a0_0 : Int) (a0_1 : Int) (a0_2 : ByteArray) (A0_3 : Option Addr) (c0_3 : Nat) (l0_3 : List ByteArray) (A0_4 : Option Addr) (c0_4 : Nat) (l0_4 : List (S25)) (r : Bool) (w : World) (_hr0_3 : Kd.C Kd.string w A0_3 l0_3.length l0_3) (_hc0_3 : l0_3.length ≤ c0_3) (_hr0_4 : Kd.C k25 w A0_4 l0_4.length l0_4) (_hc0_4 : l0_4.length ≤ c0_4) (h : json_plain.f a0_0 a0_1 a0_2 l0_3 l0_4 = some r) :
    Calls Tryd.prog 19 #[.agg #[.int .i64 a0_0, .int .i64 a0_1, .string a0_2, .slice A0_3 l0_3.length c0_3, .slice A0_4 l0_4.length c0_4]] w fun e w' => e = .returned (.bool r) ∧ Below w.heap.size w w' := by
  obtain rfl := Option.some.inj h
  exact plain_walk a0_0 a0_1 a0_2 A0_3 l0_3.length c0_3 A0_4 l0_4.length c0_4 w
end Go.Proofs.YtmecnjhjlhpehaaDoor.Q
