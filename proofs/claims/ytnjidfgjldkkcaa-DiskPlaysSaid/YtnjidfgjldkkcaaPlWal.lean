/- Plain laws of records that come in batches: the two sums, a batch's bytes. -/
import Derived.Test.YtnjidfgjldkkcaaEv
import Derived.Test.YtnjidfgjldkkcaaQWp1
namespace Go.Proofs.Ytnjidfgjldkkcaa.Plain
open Go.RowKit Go.Proofs.Ytnjidfgjldkkcaa.Q Go.Proofs.YtnjidfgjldkkcaaW.PrintWords
/-- A list of bytes. -/
def ByteL (l : List Int) : Prop := ∀ x ∈ l, 0 ≤ x ∧ x ≤ 255
def sA : List Int → Int
  | [] => 0
  | x :: t => (x + 1) + sA t
def sB : List Int → Int
  | [] => 0
  | x :: t => ((t.length : Int) + 1) * (x + 1) + sB t
theorem byteL_tail {x : Int} {t : List Int} (h : ByteL (x :: t)) : ByteL t := fun y hy => h y (by simp [hy])
theorem sumA_eq {a x : Int} (ha : 0 ≤ a ∧ a < 251) (hx : 0 ≤ x ∧ x ≤ 255) : sumA a x = (a + x + 1) % 251 := by
  unfold sumA
  rw [wrap_in (n := x) (by omega) (by omega), wrap_in (n := a + x) (by omega) (by omega), wrap_in (by omega) (by omega), Int.tmod_eq_emod_of_nonneg (by omega)]
theorem sumB_eq {a b : Int} (ha : 0 ≤ a ∧ a < 251) (hb : 0 ≤ b ∧ b < 251) : sumB b a = (b + a) % 251 := by
  unfold sumB
  rw [wrap_in (by omega) (by omega), Int.tmod_eq_emod_of_nonneg (by omega)]
theorem sumsF_eq : ∀ (l : List Int) (a b : Int), (0 ≤ a ∧ a < 251) → (0 ≤ b ∧ b < 251) → ByteL l → sumsF a b l = ((a + sA l) % 251, (b + (l.length : Int) * a + sB l) % 251)
  | [], a, b, ha, hb, _ => by
    simp only [sumsF, sA, sB, List.length_nil]
    rw [Int.emod_eq_of_lt (by omega) (by omega), Int.emod_eq_of_lt (by simp; omega) (by simp; omega)]
    simp
  | x :: t, a, b, ha, hb, hl => by
    have hx := hl x (by simp)
    simp only [sumsF]
    rw [sumA_eq ha hx]
    have ha' : 0 ≤ (a + x + 1) % 251 ∧ (a + x + 1) % 251 < 251 := ⟨by omega, by omega⟩
    rw [sumB_eq ha' hb]
    have hb' : 0 ≤ (b + (a + x + 1) % 251) % 251 ∧ (b + (a + x + 1) % 251) % 251 < 251 := ⟨by omega, by omega⟩
    rw [sumsF_eq t _ _ ha' hb' (byteL_tail hl)]
    simp only [sA, sB, List.length_cons]
    obtain ⟨q, hq⟩ : ∃ q, (a + x + 1) % 251 = a + x + 1 - 251 * q := ⟨(a + x + 1) / 251, by omega⟩
    rw [hq]
    have e1 : ((t.length : Int)) * (a + x + 1 - 251 * q) = (t.length : Int) * a + (t.length : Int) * (x + 1) - 251 * ((t.length : Int) * q) := by
      rw [Int.mul_sub, show a + x + 1 = a + (x + 1) by omega, Int.mul_add, Int.mul_left_comm]
    have e2 : ((t.length : Int) + 1) * (x + 1) = (t.length : Int) * (x + 1) + (x + 1) := by rw [Int.add_mul, Int.one_mul]
    have e3 : (((t.length + 1 : Nat) : Int)) * a = (t.length : Int) * a + a := by rw [Int.natCast_add, Int.add_mul]; simp
    rw [e1, e2, e3]
    generalize (t.length : Int) * a = p1
    generalize (t.length : Int) * (x + 1) = p2
    generalize (t.length : Int) * q = p3
    congr 1
    · omega
    · omega
theorem sA_bound : ∀ l : List Int, ByteL l → 0 ≤ sA l ∧ sA l ≤ 256 * l.length
  | [], _ => by simp [sA]
  | x :: t, h => by
    have := sA_bound t (byteL_tail h)
    have hx := h x (by simp)
    simp only [sA, List.length_cons]
    omega
theorem sB_bound : ∀ (l : List Int) (n : Nat), ByteL l → l.length ≤ n → 0 ≤ sB l ∧ sB l ≤ 256 * n * l.length
  | [], n, _, _ => by simp [sB]
  | x :: t, n, h, hn => by
    simp only [List.length_cons] at hn
    have := sB_bound t n (byteL_tail h) (by omega)
    have hx := h x (by simp)
    simp only [sB, List.length_cons]
    have h1 : 0 ≤ ((t.length : Int) + 1) * (x + 1) := Int.mul_nonneg (by omega) (by omega)
    have h2 : ((t.length : Int) + 1) * (x + 1) ≤ (n : Int) * 256 := Int.mul_le_mul (by omega) (by omega) (by omega) (by omega)
    have h3 : (256 * (n : Int) * ((t.length + 1 : Nat) : Int)) = 256 * (n : Int) * (t.length : Int) + (n : Int) * 256 := by rw [Int.natCast_add, Int.mul_add]; simp [Int.mul_comm]
    rw [h3]
    omega
theorem refSum_l0 (l : List Int) (hb : ByteL l) (hl : l.length ≤ 1000) : ∀ (d i : Nat) (a b : Int), i + d = l.length → 0 ≤ a → a ≤ 256 * i → 0 ≤ b → b ≤ 256000 * i →
    Ev (fun k => bagnallref_walSums.l0 k l a b l (l.length : Int) (i : Int)) ((a + sA (l.drop i)) % 251, (b + sB (l.drop i)) % 251)
  | 0, i, a, b, hi, ha, ha', hb0, hb' => by
    rw [List.drop_of_length_le (by omega)]
    refine Ev.step (fun k => rfl) (Ev.neg (by omega) (Ev.to (Ev.now _) ?_))
    simp only [sA, sB, Int.add_zero]
    rw [Int.tmod_eq_emod_of_nonneg ha, Int.tmod_eq_emod_of_nonneg hb0]
  | d + 1, i, a, b, hi, ha, ha', hb0, hb' => by
    have hlt : i < l.length := by omega
    have e2 : wrap64 ((i : Int) + 1) = ((i + 1 : Nat) : Int) := wrap_succ (by omega)
    refine Ev.step (fun k => rfl) (Ev.pos (by omega) (Ev.pos (by omega) (Ev.pos (by omega) ?_)))
    have hx := hb l[i] (List.getElem_mem hlt)
    rw [e2, rd_at hlt, List.drop_eq_getElem_cons hlt]
    generalize l[i] = x at hx
    rw [wrap_in (n := x) (by omega) (by omega), wrap_in (n := x + 1) (by omega) (by omega), wrap_in (n := (l.length : Int) - i) (by omega) (by omega)]
    have h1 : 0 ≤ ((l.length : Int) - i) * (x + 1) := Int.mul_nonneg (by omega) (by omega)
    have h2 : ((l.length : Int) - i) * (x + 1) ≤ 1000 * 256 := Int.mul_le_mul (by omega) (by omega) (by omega) (by omega)
    have e3 : ((((l.drop (i + 1)).length : Nat) : Int) + 1) * (x + 1) = ((l.length : Int) - i) * (x + 1) := by
      congr 1
      rw [List.length_drop]
      omega
    have ih := refSum_l0 l hb hl d (i + 1) (a + (x + 1)) (b + ((l.length : Int) - i) * (x + 1)) (by omega) (by omega) (by omega) (by omega) (by omega)
    rw [wrap_in (n := ((l.length : Int) - i) * (x + 1)) (by omega) (by omega), wrap_in (n := a + (x + 1)) (by omega) (by omega), wrap_in (n := b + ((l.length : Int) - i) * (x + 1)) (by omega) (by omega)]
    simp only [sA, sB]
    rw [e3]
    exact Ev.to ih (by rw [Int.add_assoc a (x + 1), Int.add_assoc b])
theorem refSum_ev (l : List Int) (hb : ByteL l) (hl : l.length ≤ 1000) : Ev (fun k => bagnallref_walSums.f k l) (sumsF 0 0 l) := by
  have h := refSum_l0 l hb hl l.length 0 0 0 (by omega) (by omega) (by omega) (by omega) (by omega)
  rw [List.drop_zero] at h
  rw [sumsF_eq l 0 0 (by omega) (by omega) hb]
  refine Ev.to h ?_
  simp
theorem frameB_byte {r : List Int} (h : ByteL r) (b : Bool) : ByteL (frameB r b) := by
  intro x hx
  simp only [frameB, List.cons_append, List.nil_append, List.mem_cons] at hx
  rcases hx with rfl | rfl | hx
  · omega
  · cases b <;> simp [flagOf]
  · exact h x hx
theorem rd4_at {l : List (List Int)} {i : Nat} (h : i < l.length) : rd_L4 l (i : Int) = l[i] := rdL1_at h
theorem packF_len : ∀ l : List (List Int), (∀ r ∈ l, r.length ≤ 60) → (packF l).length ≤ 64 * l.length
  | [], _ => by simp [packF]
  | r :: t, h => by
    have := packF_len t (fun x hx => h x (by simp [hx]))
    have hr := h r (by simp)
    simp only [packF, List.length_append, frameF_length, List.length_cons]
    omega
theorem refPack_l1 (l : List (List Int)) (hl : l.length ≤ 60) (hb : ∀ r ∈ l, ByteL r ∧ r.length ≤ 60) : ∀ (d i : Nat) (x : List Int), i + d = l.length → x.length ≤ 64 * i →
    Ev (fun k => bagnallref_WalPack.l1 k l x l (l.length : Int) (i : Int)) (x ++ packF (l.drop i), 0)
  | 0, i, x, hi, hx => by
    rw [List.drop_of_length_le (by omega), packF, List.append_nil]
    exact Ev.step (fun k => rfl) (Ev.neg (by omega) (Ev.now _))
  | d + 1, i, x, hi, hx => by
    have hlt : i < l.length := by omega
    have e2 : wrap64 ((i : Int) + 1) = ((i + 1 : Nat) : Int) := wrap_succ (by omega)
    refine Ev.step (fun k => rfl) (Ev.pos (by omega) (Ev.pos (by omega) (Ev.pos (by omega) ?_)))
    have hr := hb l[i] (List.getElem_mem hlt)
    have hp : packF (l.drop i) = frameF l[i] (l.drop (i + 1)).isEmpty ++ packF (l.drop (i + 1)) := by rw [List.drop_eq_getElem_cons hlt]; rfl
    rw [rd4_at hlt, e2, hp, ← List.append_assoc]
    generalize l[i] = r at hr
    obtain ⟨hrb, hrl⟩ := hr
    have hfb : ∀ b, (frameB r b).length = r.length + 2 := fun b => by simp [frameB]
    have fin : ∀ b, Ev (fun k => bagnallref_WalPack.l1 k l (x ++ frameB r b ++ [(sumsF 0 0 (frameB r b)).1 % 256, (sumsF 0 0 (frameB r b)).2 % 256]) l (l.length : Int) ((i + 1 : Nat) : Int)) (x ++ frameF r b ++ packF (l.drop (i + 1)), 0) := by
      intro b
      have ih := refPack_l1 l hl hb d (i + 1) (x ++ frameF r b) (by omega) (by rw [List.length_append, frameF_length]; omega)
      have e : x ++ frameB r b ++ [(sumsF 0 0 (frameB r b)).1 % 256, (sumsF 0 0 (frameB r b)).2 % 256] = x ++ frameF r b := by rw [List.append_assoc]; rfl
      rw [e]
      exact ih
    refine Ev.bind (Ev.lift (r := [(r.length : Int) % 256, 0]) rfl) ?_
    by_cases hlast : ((i + 1 : Nat) : Int) = (l.length : Int)
    · have hE : (l.drop (i + 1)).isEmpty = true := by rw [List.isEmpty_iff_length_eq_zero, List.length_drop]; omega
      rw [hE]
      refine Ev.pos hlast (Ev.pos (by simp) (Ev.bind (Ev.lift (r := [(r.length : Int) % 256, 1]) rfl) (Ev.pos (by simp; omega) ?_)))
      refine Ev.bind (Ev.lift (r := frameB r true) rfl) (Ev.bind (refSum_ev _ (frameB_byte hrb true) (by rw [hfb]; omega)) (Ev.pos (by rw [hfb]; omega) ?_))
      exact Ev.bind (Ev.lift rfl) (Ev.bind (Ev.lift rfl) (Ev.pos (by simp [hfb]; omega) (fin true)))
    · have hE : (l.drop (i + 1)).isEmpty = false := by
        rw [Bool.eq_false_iff, ne_eq, List.isEmpty_iff_length_eq_zero, List.length_drop]; omega
      rw [hE]
      refine Ev.neg hlast (Ev.pos (by simp; omega) ?_)
      refine Ev.bind (Ev.lift (r := frameB r false) rfl) (Ev.bind (refSum_ev _ (frameB_byte hrb false) (by rw [hfb]; omega)) (Ev.pos (by rw [hfb]; omega) ?_))
      exact Ev.bind (Ev.lift rfl) (Ev.bind (Ev.lift rfl) (Ev.pos (by simp [hfb]; omega) (fin false)))
theorem refPack_l0 (l : List (List Int)) (hl : l.length ≤ 60) : ∀ (d i : Nat) (r : List Int × Int), i + d = l.length → ((l.drop i).any oddF = false → Ev (fun k => bagnallref_WalPack.l1 k l ([] : List Int) l (l.length : Int) 0) r) → ((l.drop i).any oddF = true → r = ([], 1)) →
    Ev (fun k => bagnallref_WalPack.l0 k l l (l.length : Int) (i : Int)) r
  | 0, i, r, hi, h1, _ => by
    rw [List.drop_of_length_le (by omega)] at h1
    exact Ev.step (fun k => rfl) (Ev.neg (by omega) (h1 rfl))
  | d + 1, i, r, hi, h1, h2 => by
    have hlt : i < l.length := by omega
    have e2 : wrap64 ((i : Int) + 1) = ((i + 1 : Nat) : Int) := wrap_succ (by omega)
    refine Ev.step (fun k => rfl) (Ev.pos (by omega) (Ev.pos (by omega) (Ev.pos (by omega) ?_)))
    rw [List.drop_eq_getElem_cons hlt, List.any_cons] at h1 h2
    rw [rd4_at hlt, e2]
    by_cases hz : (l[i].length : Int) = 0
    · have : oddF l[i] = true := by unfold oddF; rw [show l[i].length = 0 by omega]; rfl
      exact Ev.pos hz (Ev.to (Ev.now _) (h2 (by rw [this]; rfl)).symm)
    · by_cases h60 : (l[i].length : Int) > 60
      · have : oddF l[i] = true := by unfold oddF; rw [decide_eq_false (show ¬ l[i].length ≤ 60 by omega), Bool.and_false]; rfl
        exact Ev.neg hz (Ev.pos h60 (Ev.to (Ev.now _) (h2 (by rw [this]; rfl)).symm))
      · have : oddF l[i] = false := by unfold oddF; rw [decide_eq_true (show l[i].length ≤ 60 by omega), decide_eq_true (show 1 ≤ l[i].length by omega)]; rfl
        rw [this, Bool.false_or] at h1 h2
        exact Ev.neg hz (Ev.neg h60 (refPack_l0 l hl d (i + 1) r (by omega) h1 h2))
theorem j0_true (k : Nat) (l : List (List Int)) : bagnallref_WalPack.j0 (k + 1) l true = some (([] : List Int), 1) := rfl
theorem j0_false (k : Nat) (l : List (List Int)) : bagnallref_WalPack.j0 (k + 1) l false = bagnallref_WalPack.l0 k l l (l.length : Int) 0 := rfl
theorem refPack_ev (l : List (List Int)) (hb : ∀ r ∈ l, ByteL r) : Ev (fun k => bagnallref_WalPack.f k l) (if packOdd l = true then ([], 1) else (packF l, 0)) := by
  unfold bagnallref_WalPack.f
  by_cases h0 : l.length = 0
  · have hp : packOdd l = true := by unfold packOdd; rw [h0]; rfl
    rw [if_pos hp]
    exact Ev.pos (by omega) (Ev.step (fun k => j0_true k l) (Ev.now _))
  refine Ev.neg (by omega) ?_
  by_cases h60 : (l.length : Int) > 60
  · have hp : packOdd l = true := by unfold packOdd; rw [decide_eq_true (show 60 < l.length by omega)]; simp
    rw [if_pos hp, decide_eq_true h60]
    exact Ev.step (fun k => j0_true k l) (Ev.now _)
  have hp : packOdd l = l.any oddF := by unfold packOdd; rw [decide_eq_false (show ¬ 60 < l.length by omega), decide_eq_false (show ¬ l.length < 1 by omega)]; simp
  rw [hp, decide_eq_false h60]
  refine Ev.step (fun k => j0_false k l) ?_
  refine refPack_l0 l (by omega) l.length 0 _ (by omega) (fun h => ?_) (fun h => ?_)
  · rw [List.drop_zero] at h
    rw [h]
    have hs : ∀ r ∈ l, ByteL r ∧ r.length ≤ 60 := fun r hr => ⟨hb r hr, by
      have := List.any_eq_false.1 h r hr
      unfold oddF at this
      simp at this
      omega⟩
    have := refPack_l1 l (by omega) hs l.length 0 [] (by omega) (by simp)
    rw [List.drop_zero, List.nil_append] at this
    exact this
  · rw [List.drop_zero] at h
    rw [h]; rfl
theorem sameB_l0 (l : List Int) (hl : l.length ≤ 1000000) : ∀ (d i : Nat), i + d = l.length → Ev (fun n => bagnalllaw_sameBytes.l0 n l l (i : Int)) true
  | 0, i, hi => Ev.step (fun k => rfl) (Ev.neg (by omega) (Ev.now _))
  | d + 1, i, hi => by
    have e2 : wrap64 ((i : Int) + 1) = ((i + 1 : Nat) : Int) := wrap_succ (by omega)
    refine Ev.step (fun k => rfl) (Ev.pos (by omega) (Ev.pos (by omega) (Ev.pos (by omega) (Ev.pos rfl ?_))))
    rw [e2]
    exact sameB_l0 l hl d (i + 1) (by omega)
theorem sameB_ev (l : List Int) (hl : l.length ≤ 1000000) : Ev (fun n => bagnalllaw_sameBytes.f n l l) true := by
  unfold bagnalllaw_sameBytes.f
  exact Ev.pos rfl (sameB_l0 l hl l.length 0 (by omega))
end Go.Proofs.Ytnjidfgjldkkcaa.Plain
