/- Plain words on six bits and eight bits: what letters say, and how bytes are written as letters. No program. -/
namespace Go.Proofs.Ytmecnjhjlhpehaa.Bits
/-- Whole numbers out of natural ones. -/
def nat (l : List Nat) : List Int := l.map fun n : Nat => (n : Int)
theorem nat_append (a b : List Nat) : nat (a ++ b) = nat a ++ nat b := by simp [nat]
theorem nat_length (a : List Nat) : (nat a).length = a.length := by simp [nat]
theorem nat_inj {a b : List Nat} (h : nat a = nat b) : a = b := by
  induction a generalizing b with
  | nil => cases b with
    | nil => rfl
    | cons y b => simp [nat] at h
  | cons x a ih => cases b with
    | nil => simp [nat] at h
    | cons y b =>
      simp only [nat, List.map_cons, List.cons.injEq] at h
      rw [ih h.2]
      congr 1
      omega
def bits6 (v : Nat) : List Nat := [v / 32 % 2, v / 16 % 2, v / 8 % 2, v / 4 % 2, v / 2 % 2, v % 2]
def fold8 (l : List Nat) : Nat := l.foldl (fun n b => 2 * n + b) 0
def toBytes : Nat → List Nat → List Nat
  | 0, _ => []
  | f + 1, l => if l.length < 8 then [] else fold8 (l.take 8) :: toBytes f (l.drop 8)
/-- What letters say, four at a time: the bytes, and whether what is left over is nothing. -/
def decC : List Nat → List Nat × Bool
  | [] => ([], true)
  | [_] => ([], false)
  | [v1, v2] => ([(v1 * 64 + v2) / 16], v2 % 16 == 0)
  | [v1, v2, v3] => ([(v1 * 64 + v2) / 16, (v2 % 16 * 64 + v3) / 4], v3 % 4 == 0)
  | v1 :: v2 :: v3 :: v4 :: t => ([(v1 * 64 + v2) / 16, (v2 % 16 * 64 + v3) / 4, v3 % 4 * 64 + v4] ++ (decC t).1, (decC t).2)
/-- Bytes as letters, three at a time. -/
def encV : List Nat → List Nat
  | [] => []
  | [a] => [a / 4, a % 4 * 16]
  | [a, b] => [a / 4, a % 4 * 16 + b / 16, b % 16 * 4]
  | a :: b :: c :: t => [a / 4, a % 4 * 16 + b / 16, b % 16 * 4 + c / 64, c % 64] ++ encV t
structure St where
  out : List Nat
  m : Nat
  b : Nat
def bstep (s : St) (v : Nat) : St := if s.m + 6 ≥ 8 then ⟨s.out ++ [(s.b * 64 + v) / 2 ^ (s.m - 2)], s.m - 2, (s.b * 64 + v) % 2 ^ (s.m - 2)⟩ else ⟨s.out, s.m + 6, s.b * 64 + v⟩

theorem run_dec : ∀ (vs : List Nat) (out : List Nat), (∀ v ∈ vs, v < 64) → ∃ m b, vs.foldl bstep ⟨out, 0, 0⟩ = ⟨out ++ (decC vs).1, m, b⟩ ∧ ((decC vs).2 = true ↔ ¬ (m = 6 ∨ b ≠ 0))
  | [], out, _ => ⟨0, 0, by simp [decC], by simp [decC]⟩
  | [v1], out, _ => ⟨6, v1, by simp [decC, bstep], by simp [decC]⟩
  | [v1, v2], out, h => by
    refine ⟨4, v2 % 16, ?_, ?_⟩
    · simp [decC, bstep]; omega
    · simp [decC]
  | [v1, v2, v3], out, h => by
    refine ⟨2, v3 % 4, ?_, ?_⟩
    · simp [decC, bstep]; omega
    · simp [decC]
  | v1 :: v2 :: v3 :: v4 :: t, out, h => by
    have hv : v1 < 64 ∧ v2 < 64 ∧ v3 < 64 ∧ v4 < 64 := ⟨h _ (by simp), h _ (by simp), h _ (by simp), h _ (by simp)⟩
    obtain ⟨m, b, h1, h2⟩ := run_dec t (out ++ [(v1 * 64 + v2) / 16, (v2 % 16 * 64 + v3) / 4, v3 % 4 * 64 + v4]) (fun v hv => h v (by simp [hv]))
    refine ⟨m, b, ?_, h2⟩
    have e : bstep (bstep (bstep (bstep ⟨out, 0, 0⟩ v1) v2) v3) v4 = ⟨out ++ [(v1 * 64 + v2) / 16, (v2 % 16 * 64 + v3) / 4, v3 % 4 * 64 + v4], 0, 0⟩ := by
      simp [bstep]
      omega
    show t.foldl bstep (bstep (bstep (bstep (bstep ⟨out, 0, 0⟩ v1) v2) v3) v4) = _
    rw [e, h1]
    simp [decC]

theorem fold_bits (a1 a2 a3 a4 a5 a6 a7 a8 : Nat) (r : List Nat) (f : Nat) : toBytes (f + 1) (a1 :: a2 :: a3 :: a4 :: a5 :: a6 :: a7 :: a8 :: r) = (((((((a1 * 2 + a2) * 2 + a3) * 2 + a4) * 2 + a5) * 2 + a6) * 2 + a7) * 2 + a8) :: toBytes f r := by
  conv => lhs; unfold toBytes
  rw [if_neg (by simp)]
  simp only [List.take, List.drop, fold8, List.foldl_cons, List.foldl_nil]
  congr 1
  omega

theorem toBytes_dec : ∀ (vs : List Nat) (f : Nat), vs.length ≤ f → (∀ v ∈ vs, v < 64) → toBytes f (vs.flatMap bits6) = (decC vs).1
  | [], f, _, _ => by cases f <;> simp [toBytes, decC]
  | [v1], f, _, _ => by cases f <;> simp [toBytes, decC, bits6]
  | [v1, v2], f, hf, h => by
    have hv : v1 < 64 ∧ v2 < 64 := ⟨h _ (by simp), h _ (by simp)⟩
    obtain ⟨f, rfl⟩ : ∃ m, f = m + 2 := ⟨f - 2, by simp at hf; omega⟩
    simp only [List.flatMap_cons, List.flatMap_nil, bits6, List.cons_append, List.nil_append, List.append_nil, fold_bits, decC]
    simp [toBytes]
    omega
  | [v1, v2, v3], f, hf, h => by
    have hv : v1 < 64 ∧ v2 < 64 ∧ v3 < 64 := ⟨h _ (by simp), h _ (by simp), h _ (by simp)⟩
    obtain ⟨f, rfl⟩ : ∃ m, f = m + 3 := ⟨f - 3, by simp at hf; omega⟩
    simp only [List.flatMap_cons, List.flatMap_nil, bits6, List.cons_append, List.nil_append, List.append_nil, fold_bits, decC]
    simp [toBytes]
    omega
  | v1 :: v2 :: v3 :: v4 :: t, f, hf, h => by
    have hv : v1 < 64 ∧ v2 < 64 ∧ v3 < 64 ∧ v4 < 64 := ⟨h _ (by simp), h _ (by simp), h _ (by simp), h _ (by simp)⟩
    obtain ⟨f, rfl⟩ : ∃ m, f = m + 3 := ⟨f - 3, by simp at hf; omega⟩
    have ih := toBytes_dec t f (by simp at hf; omega) (fun v hv => h v (by simp [hv]))
    simp only [List.flatMap_cons, bits6, List.cons_append, List.nil_append, fold_bits, decC]
    rw [ih]
    simp only [List.cons.injEq, and_true]
    omega

theorem enc_dec : ∀ (vs : List Nat), (∀ v ∈ vs, v < 64) → (encV (decC vs).1 = vs ↔ (decC vs).2 = true)
  | [], _ => by simp [encV, decC]
  | [v1], _ => by simp [encV, decC]
  | [v1, v2], h => by
    have hv : v1 < 64 ∧ v2 < 64 := ⟨h _ (by simp), h _ (by simp)⟩
    simp [encV, decC]
    omega
  | [v1, v2, v3], h => by
    have hv : v1 < 64 ∧ v2 < 64 ∧ v3 < 64 := ⟨h _ (by simp), h _ (by simp), h _ (by simp)⟩
    simp [encV, decC]
    omega
  | v1 :: v2 :: v3 :: v4 :: t, h => by
    have hv : v1 < 64 ∧ v2 < 64 ∧ v3 < 64 ∧ v4 < 64 := ⟨h _ (by simp), h _ (by simp), h _ (by simp), h _ (by simp)⟩
    have ih := enc_dec t (fun v hv => h v (by simp [hv]))
    simp only [encV, decC, List.cons_append, List.nil_append, List.cons.injEq]
    rw [← ih]
    constructor
    · exact fun h => h.2.2.2.2
    · exact fun h => ⟨by omega, by omega, by omega, by omega, h⟩

theorem enc_lt : ∀ (l : List Nat), (∀ b ∈ l, b < 256) → ∀ v ∈ encV l, v < 64
  | [], _ => by simp [encV]
  | [a], h => by have := h a (by simp); simp [encV]; omega
  | [a, b], h => by have := h a (by simp); have := h b (by simp); simp [encV]; omega
  | a :: b :: c :: t, h => by
    have := h a (by simp); have := h b (by simp); have := h c (by simp)
    have ih := enc_lt t (fun x hx => h x (by simp [hx]))
    intro v hv
    simp only [encV, List.cons_append, List.nil_append, List.mem_cons] at hv
    rcases hv with rfl | rfl | rfl | rfl | hv
    · omega
    · omega
    · omega
    · omega
    · exact ih v hv
theorem dec_lt : ∀ (l : List Nat), (∀ v ∈ l, v < 64) → ∀ b ∈ (decC l).1, b < 256
  | [], _ => by simp [decC]
  | [a], _ => by simp [decC]
  | [a, b], h => by have := h a (by simp); have := h b (by simp); simp [decC]; omega
  | [a, b, c], h => by have := h a (by simp); have := h b (by simp); have := h c (by simp); simp [decC]; omega
  | a :: b :: c :: d :: t, h => by
    have := h a (by simp); have := h b (by simp); have := h c (by simp); have := h d (by simp)
    have ih := dec_lt t (fun x hx => h x (by simp [hx]))
    intro v hv
    simp only [decC, List.cons_append, List.nil_append, List.mem_cons] at hv
    rcases hv with rfl | rfl | rfl | hv
    · omega
    · omega
    · omega
    · exact ih v hv
theorem dec_length : ∀ (l : List Nat), (decC l).1.length ≤ l.length
  | [] => by simp [decC]
  | [a] => by simp [decC]
  | [a, b] => by simp [decC]
  | [a, b, c] => by simp [decC]
  | a :: b :: c :: d :: t => by have := dec_length t; simp [decC]; omega
end Go.Proofs.Ytmecnjhjlhpehaa.Bits
