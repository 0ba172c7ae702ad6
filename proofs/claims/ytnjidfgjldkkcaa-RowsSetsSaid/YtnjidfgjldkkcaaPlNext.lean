/- Plain laws of the text that stands behind all with a head; of a piece of a table. -/
import Derived.Test.YtnjidfgjldkkcaaPlSort
import Derived.Test.YtnjidfgjldkkcaaPureRowsNexts
import Derived.Test.YtnjidfgjldkkcaaQRa3
import Derived.Test.YtnjidfgjldkkcaaQRa2
namespace Go.Proofs.Ytnjidfgjldkkcaa.Plain
open Go.RowKit Go.Proofs.Ytnjidfgjldkkcaa.Q Go.Proofs.YtnjidfgjldkkcaaW.PrintWords

/-- The text behind all with this head; none: no such. -/
def nx : List UInt8 → List UInt8
  | [] => []
  | a :: t => if nx t = [] then (if a = 255 then [] else [a + 1]) else a :: nx t
theorem nx_snoc255 : ∀ l : List UInt8, nx (l ++ [255]) = nx l
  | [] => rfl
  | b :: l => by
    have := nx_snoc255 l
    simp only [List.cons_append, nx, this]
theorem nx_snoc {a : UInt8} (h : a ≠ 255) : ∀ l : List UInt8, nx (l ++ [a]) = l ++ [a + 1]
  | [] => by simp [nx, h]
  | b :: l => by
    have := nx_snoc h l
    simp [nx, this]
theorem up_lt {a : UInt8} (h : a ≠ 255) : (a + 1).toNat = a.toNat + 1 := by
  have h1 : a.toNat < 256 := a.toNat_lt
  have h2 : a.toNat ≠ 255 := fun e => h (UInt8.toNat_inj.1 e)
  rw [UInt8.toNat_add]
  have : (1 : UInt8).toNat = 1 := rfl
  rw [this]; omega
theorem lt_dec {a b : UInt8} : (a < b) = (a.toNat < b.toNat) := propext UInt8.lt_iff_toNat_lt
theorem eq_dec {a b : UInt8} : (a = b) = (a.toNat = b.toNat) := propext UInt8.toNat_inj.symm
/-- Who has the head: he is not ahead of it, and he is ahead of what follows all. -/
theorem has_head : ∀ h k : List UInt8, (k.take h.length = h) ↔ (Op.bytesLess k h = false ∧ (nx h = [] ∨ Op.bytesLess k (nx h) = true))
  | [], k => by cases k <;> simp [Op.bytesLess, nx]
  | a :: t, [] => by simp [Op.bytesLess]
  | a :: t, b :: u => by
    have ih := has_head t u
    simp only [List.length_cons, List.take_succ_cons, List.cons.injEq, ih]
    by_cases hab : b = a
    · subst hab
      have hi : ¬ b < b := by rw [lt_dec]; omega
      by_cases hn : nx t = []
      · by_cases h255 : b = 255
        · simp [Op.bytesLess, nx, hn, h255]
        · have : b < b + 1 := by rw [lt_dec, up_lt h255]; omega
          simp [Op.bytesLess, nx, hn, h255, this]
      · simp [Op.bytesLess, nx, hn]
    · by_cases hlt : b < a
      · simp [Op.bytesLess, hab, hlt]
      · have hlt' : ¬ b.toNat < a.toNat := by rw [← lt_dec]; exact hlt
        have hab' : ¬ b.toNat = a.toNat := by rw [← eq_dec]; exact hab
        by_cases hn : nx t = []
        · by_cases h255 : a = 255
          · have hb := b.toNat_lt
            have : a.toNat = 255 := by rw [h255]; rfl
            omega
          · have h3 : ¬ b < a + 1 := by rw [lt_dec, up_lt h255]; omega
            simp [Op.bytesLess, nx, hn, h255, hab, h3]
        · simp [Op.bytesLess, nx, hn, hab, hlt]
/-- Who is ahead of the head is ahead of what follows all. -/
theorem less_nx : ∀ h k : List UInt8, Op.bytesLess k h = true → nx h = [] ∨ Op.bytesLess k (nx h) = true
  | [], k, h => by cases k <;> simp [Op.bytesLess] at h
  | a :: t, [], _ => by
    cases h : nx (a :: t)
    · exact .inl rfl
    · right; rfl
  | a :: t, b :: u, h => by
    have ih := less_nx t u
    simp only [Op.bytesLess, Bool.or_eq_true, Bool.and_eq_true, decide_eq_true_eq, beq_iff_eq] at h
    by_cases hn : nx t = []
    · by_cases h255 : a = 255
      · left; simp [nx, hn, h255]
      · right
        have : b < a + 1 := by
          rw [lt_dec, up_lt h255]
          rcases h with h | ⟨rfl, _⟩
          · rw [lt_dec] at h; omega
          · omega
        simp [nx, hn, h255, Op.bytesLess, this]
    · right
      rcases h with h | ⟨rfl, h⟩
      · simp [nx, hn, Op.bytesLess, h]
      · rcases ih h with h2 | h2
        · exact absurd h2 hn
        · simp [nx, hn, Op.bytesLess, h2]

theorem toList_str (xs : List Int) : (strOfNums xs).toList = xs.map fun n => UInt8.ofNat n.toNat := by
  rw [Go.ByteArray.toList_eq]; rfl
theorem len_toList (s : ByteArray) : s.toList.length = s.size := by
  rw [Go.ByteArray.toList_eq, Array.length_toList]; rfl
theorem bt_toList {s : ByteArray} {i : Nat} (h : i < s.size) : bt s (i : Int) = ((s.toList[i]'(by rw [len_toList]; exact h)).toNat : Int) := by
  rw [bt_get h]
  simp only [toList_bytes, List.getElem_map]
theorem next_nx (s : ByteArray) : ∀ n, n ≤ s.size → (strOfNums (Q.raised s (trimLen s n))).toList = nx (s.toList.take n)
  | 0, _ => by rw [trimLen, Q.raised, toList_str]; rfl
  | n + 1, hn => by
    have hlt : n < s.toList.length := by rw [len_toList]; omega
    have hb := bt_toList (s := s) (i := n) (by omega)
    rw [List.take_succ_eq_append_getElem hlt]
    by_cases h : bt s (n : Int) = 255
    · have e : s.toList[n] = 255 := by
        rw [hb] at h
        apply UInt8.toNat_inj.1
        have : (255 : UInt8).toNat = 255 := rfl
        rw [this]; omega
      rw [trimLen, if_pos h, next_nx s n (by omega), e, nx_snoc255]
    · have e : s.toList[n] ≠ 255 := by
        intro e
        apply h
        rw [hb, e]; rfl
      have hlt2 : n < (bytesOf s).length := by rw [size_bytes]; omega
      rw [trimLen, if_neg h, nx_snoc e, toList_str, Q.raised, List.take_succ_eq_append_getElem hlt2, List.set_append_right _ _ (by rw [List.length_take]; omega)]
      rw [List.length_take, Nat.min_eq_left (Nat.le_of_lt hlt2), Nat.sub_self, List.set_cons_zero, List.map_append]
      congr 1
      · rw [toList_bytes, ← List.map_take, List.map_map]
        have : ((fun n : Int => UInt8.ofNat n.toNat) ∘ fun b : UInt8 => (b.toNat : Int)) = id := by
          funext b
          simp
        rw [this, List.map_id]
      · rw [List.map_cons, List.map_nil]
        congr 1
        apply UInt8.toNat_inj.1
        have h1 := (s.toList[n]).toNat_lt
        have h2 := up_lt e
        have h3 : (s.toList[n]).toNat ≠ 255 := fun e2 => e (UInt8.toNat_inj.1 e2)
        rw [h2, hb]
        simp only [UInt8.toNat_ofNat']
        omega

/-- The piece of a row between two ends that its order bears. -/
theorem seg {α : Type} (p q : α → Bool) : ∀ l : List α, l.Pairwise (fun x y => p y = true → p x = true) → l.Pairwise (fun x y => q y = true → q x = true) → (∀ x ∈ l, p x = true → q x = true) →
    (l.take (l.takeWhile q).length).drop (l.takeWhile p).length = l.filter fun x => !p x && q x
  | [], _, _, _ => rfl
  | x :: t, hp, hq, hpq => by
    have ih := seg p q t (List.Pairwise.of_cons hp) (List.Pairwise.of_cons hq) (fun y hy => hpq y (by simp [hy]))
    by_cases h1 : p x = true
    · have h2 := hpq x (by simp) h1
      simp [h1, h2, ih]
    · have hpt : ∀ y ∈ t, p y = false := fun y hy => Bool.eq_false_iff.2 fun e => h1 ((List.pairwise_cons.1 hp).1 y hy e)
      have h1' : p x = false := Bool.eq_false_iff.2 h1
      have h0 : (t.takeWhile p).length = 0 := by
        cases t with
        | nil => rfl
        | cons y s => simp [hpt y (by simp)]
      rw [h0, List.drop_zero] at ih
      by_cases h2 : q x = true
      · simp [h1', h2, ih]
      · have hqt : ∀ y ∈ t, q y = false := fun y hy => Bool.eq_false_iff.2 fun e => h2 ((List.pairwise_cons.1 hq).1 y hy e)
        have h2' : q x = false := Bool.eq_false_iff.2 h2
        simp only [List.takeWhile_cons, h1', h2', Bool.not_false, Bool.and_false, List.filter_cons]
        simp only [Bool.false_eq_true, if_false, List.length_nil, List.take_zero, List.drop_zero]
        exact (List.filter_eq_nil_iff.2 (fun y hy => by simp [hqt y hy])).symm
theorem tw_true {α : Type} : ∀ l : List α, l.takeWhile (fun _ => true) = l
  | [] => rfl
  | a :: t => by rw [List.takeWhile_cons_of_pos rfl, tw_true t]
/-- Has a key this head? -/
def pfx (h k : ByteArray) : Bool := decide (k.toList.take h.toList.length = h.toList)
theorem begin_seg {l : List S69} (ha : Asc l) (h : ByteArray) (n : ByteArray) (hn : n.toList = nx h.toList) :
    (l.take (if n.toList = [] then l.length else cut l n)).drop (cut l h) = l.filter (fun r => pfx h r.f0) := by
  have hmono : ∀ k : ByteArray, l.Pairwise (fun x y => kl y.f0 k = true → kl x.f0 k = true) := fun k => ha.imp (fun hxy hy => kl_trans hxy hy)
  have h1 := seg (fun r : S69 => kl r.f0 h) (fun r => if n.toList = [] then true else kl r.f0 n) l (hmono h) (by
    by_cases e : n.toList = []
    · simp only [e, if_pos]; exact ha.imp (fun _ _ => trivial)
    · simpa [e] using hmono n) (fun x _ hx => by
    by_cases e : n.toList = []
    · simp [e]
    · rcases less_nx _ _ hx with h2 | h2
      · rw [← hn] at h2; exact absurd h2 e
      · rw [if_neg e]; unfold kl; rw [hn]; exact h2)
  have e1 : (l.takeWhile fun r => if n.toList = [] then true else kl r.f0 n).length = if n.toList = [] then l.length else cut l n := by
    by_cases e : n.toList = []
    · simp [e, tw_true]
    · simp [e, cut]
  rw [e1] at h1
  refine Eq.trans h1 (List.filter_congr fun r _ => ?_)
  have := has_head h.toList r.f0.toList
  unfold pfx
  rw [Bool.eq_iff_iff, decide_eq_true_eq, this, ← hn]
  unfold kl
  by_cases e : n.toList = []
  · simp [e]
  · simp [e]
theorem same_l0 (l : List S69) (hl : l.length ≤ 1000000) : ∀ (d i : Nat), i + d = l.length → Ev (fun n => bagnalllaw_sameRows.l0 n l l (i : Int)) true
  | 0, i, hi => Ev.step (fun k => rfl) (Ev.neg (by omega) (Ev.now _))
  | d + 1, i, hi => by
    have e2 : wrap64 ((i : Int) + 1) = ((i + 1 : Nat) : Int) := wrap_succ (by omega)
    refine Ev.step (fun k => rfl) (Ev.pos (by omega) (Ev.pos (by omega) (Ev.pos (by omega) (Ev.neg (by simp) ?_))))
    rw [e2]
    exact same_l0 l hl d (i + 1) (by omega)
theorem same_ev (l : List S69) (hl : l.length ≤ 1000000) : Ev (fun n => bagnalllaw_sameRows.f n l l) true := by
  unfold bagnalllaw_sameRows.f
  exact Ev.pos rfl (same_l0 l hl l.length 0 (by omega))
end Go.Proofs.Ytnjidfgjldkkcaa.Plain
