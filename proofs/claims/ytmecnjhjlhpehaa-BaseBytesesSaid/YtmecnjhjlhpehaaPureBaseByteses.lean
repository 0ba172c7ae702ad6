/- base.Bytes answers as the reference does, for every text; no condition. -/
import Derived.Test.YtmecnjhjlhpehaaPlText
import Derived.Test.YtmecnjhjlhpehaaPlBytes
namespace Go.Proofs.Ytmecnjhjlhpehaa.Pure
open Go.RowKit Go.Proofs.Ytmecnjhjlhpehaa.Q Go.Proofs.Ytmecnjhjlhpehaa.Bits Go.Proofs.Ytmecnjhjlhpehaa.Plain Go.Proofs.YtmecnjhjlhpehaaW.PrintWords Go.Proofs.YtmecnjhjlhpehaaW.PrintLast Go.Proofs.YtmecnjhjlhpehaaW.PrintMore

theorem enc_append : ∀ (a b : List Nat), a.length % 3 = 0 → encV (a ++ b) = encV a ++ encV b
  | [], b, _ => by simp [encV]
  | [_], _, h => by simp at h
  | [_, _], _, h => by simp at h
  | x :: y :: z :: t, b, h => by
    have ih := enc_append t b (by simp at h; omega)
    simp only [List.cons_append, encV, List.nil_append]
    rw [ih]
theorem enc_length : ∀ (l : List Nat), (encV l).length ≤ 2 * l.length
  | [] => by simp [encV]
  | [a] => by simp [encV]
  | [a, b] => by simp [encV]
  | a :: b :: c :: t => by have := enc_length t; simp [encV]; omega
theorem letters_bytes (vs : List Nat) : bytesOf (strOfNums (letters vs)) = letters vs := by
  rw [toList_bytes, Go.ByteArray.toList_eq, strOfNums_data]
  unfold letters
  rw [List.map_map, List.map_map]
  refine List.map_congr_left fun v _ => ?_
  have := bt_range tbl (v : Int)
  simp
  omega
theorem ref_l5 (s : ByteArray) (out : List Nat) (hl : out.length ≤ 1200) (hb : ∀ b ∈ out, b < 256) : ∀ (f c : Nat), out.length ≤ 300 * c + 300 * f → c ≤ 4 → 300 * c ≤ out.length + 299 →
    Ev (fun k => bagnallref_BaseBytes.l5 k s (nat out) (strOfNums (letters (encV (out.take (300 * c))))) ((300 * c : Nat) : Int)) (if strOfNums (letters (encV out)) = s then (nat out, 0) else ([], 4))
  | f, c, hf, hc, hc2 => by
    by_cases hlt : 300 * c < out.length
    · obtain ⟨f, rfl⟩ : ∃ g, f = g + 1 := ⟨f - 1, by omega⟩
      have e0 : wrap64 (((300 * c : Nat) : Int) + 300) = ((300 * (c + 1) : Nat) : Int) := by rw [wrap_in (by omega) (by omega)]; omega
      have e1 : mn ((nat out).length : Int) (wrap64 (((300 * c : Nat) : Int) + 300)) = ((min out.length (300 * (c + 1)) : Nat) : Int) := by rw [e0, nat_length]; exact mn_nat _ _
      refine Ev.step (fun k => rfl) (Ev.pos (by rw [nat_length]; omega) (Ev.pos (by omega) (Ev.pos (by rw [e1]; omega) (Ev.pos (by rw [e1, nat_length]; omega) ?_))))
      rw [e1, e0, Int.toNat_natCast, Int.toNat_natCast]
      have ec : ((nat out).take (min out.length (300 * (c + 1)))).drop (300 * c) = nat ((out.take (min out.length (300 * (c + 1)))).drop (300 * c)) := by
        unfold nat
        rw [List.map_drop, List.map_take]
      rw [ec]
      obtain ⟨y, hy⟩ : ∃ y, y = (out.take (min out.length (300 * (c + 1)))).drop (300 * c) := ⟨_, rfl⟩
      rw [← hy]
      have hyl : y.length ≤ 300 := by rw [hy, List.length_drop, List.length_take]; omega
      have hyb : ∀ b ∈ y, b < 256 := fun b h => hb b (List.mem_of_mem_take (List.mem_of_mem_drop (hy ▸ h)))
      have ejoin : out.take (300 * c) ++ y = out.take (300 * (c + 1)) := by
        rw [hy]
        have : out.take (min out.length (300 * (c + 1))) = out.take (300 * (c + 1)) := by
          rcases Nat.le_total out.length (300 * (c + 1)) with h | h
          · rw [Nat.min_eq_left h, List.take_of_length_le (Nat.le_refl _), List.take_of_length_le h]
          · rw [Nat.min_eq_right h]
        rw [this, show out.take (300 * c) = (out.take (300 * (c + 1))).take (300 * c) by rw [List.take_take, Nat.min_eq_left (by omega)], List.take_append_drop]
      have eenc : encV (out.take (300 * c)) ++ encV y = encV (out.take (300 * (c + 1))) := by
        rw [← enc_append _ _ (by rw [List.length_take]; omega), ejoin]
      have hz1 := enc_length (out.take (300 * c))
      have hz2 := enc_length y
      rw [List.length_take] at hz1
      refine Ev.bind (text_ev y (by omega) hyb) (Ev.pos (by rw [strOfNums_size, strOfNums_size, letters_length, letters_length]; omega) ?_)
      rw [str_append, ← letters_append, eenc]
      exact ref_l5 s out hl hb f (c + 1) (by omega) (by omega) (by omega)
    · refine Ev.step (fun k => rfl) (Ev.neg (by rw [nat_length]; omega) ?_)
      rw [List.take_of_length_le (by omega)]
      by_cases h : strOfNums (letters (encV out)) = s
      · rw [if_pos h]; exact Ev.pos (toList_inj.2 h) (Ev.now _)
      · rw [if_neg h]; exact Ev.neg (fun e => h (toList_inj.1 e)) (Ev.now _)

theorem bits_lt (vs : List Nat) : ∀ b ∈ vs.flatMap bits6, b < 2 := by
  intro b hb
  obtain ⟨v, _, h⟩ := List.mem_flatMap.1 hb
  simp [bits6] at h
  omega
theorem bits_length (vs : List Nat) : (vs.flatMap bits6).length = 6 * vs.length := by
  induction vs with
  | nil => rfl
  | cons v t ih => simp [bits6, ih]; omega

theorem ref_ev (s : ByteArray) (hs : s.size ≤ 1200) : Ev (fun k => bagnallref_BaseBytes.f k s) (match scan s s.size 0 with | none => ([], 4) | some vs => if (decC vs).2 = true then (nat (decC vs).1, 0) else ([], 4)) := by
  unfold bagnallref_BaseBytes.f
  refine Ev.neg (by omega) ?_
  refine ref_l0 s hs _ s.size 0 [] (by omega) rfl ?_
  cases hsc : scan s s.size 0 with
  | none => rfl
  | some vs =>
    obtain ⟨h1, h2, h3⟩ := scan_says s s.size 0 vs hsc (by omega)
    show Ev (fun k => bagnallref_BaseBytes.l3 k s (nat ([] ++ vs.flatMap bits6)) [] 0) (if (decC vs).2 = true then (nat (decC vs).1, 0) else ([], 4))
    rw [List.nil_append]
    refine ref_l3 s (vs.flatMap bits6) (bits_lt vs) (by rw [bits_length]; omega) _ 1200 0 [] (by rw [bits_length]; omega) (by omega) (by simp) ?_
    rw [Nat.mul_zero, List.drop_zero, List.nil_append, toBytes_dec vs 1200 (by omega) h1]
    have hd := dec_length vs
    refine Ev.to (ref_l5 s (decC vs).1 (by omega) (dec_lt vs h1) 4 0 (by omega) (by omega) (by omega)) ?_
    have hiff := enc_dec vs h1
    have es : s = strOfNums (letters vs) := by rw [h3, List.drop_zero, str_bytes]
    by_cases h : (decC vs).2 = true
    · rw [if_pos h, if_pos (by rw [hiff.2 h, ← es])]
    · rw [if_neg h, if_neg (fun e => h (hiff.1 ?_))]
      have e2 : letters (encV (decC vs).1) = letters vs := by rw [← letters_bytes, e, es, letters_bytes]
      exact letters_inj (enc_lt _ (dec_lt vs h1)) h1 e2

theorem same_l0 (l : List Int) (hl : l.length ≤ 5000) : ∀ (d i : Nat), i + d = l.length → Ev (fun k => bagnalllaw_sameBytes.l0 k l l (i : Int)) true
  | 0, i, hi => Ev.step (fun k => rfl) (Ev.neg (by omega) (Ev.now _))
  | d + 1, i, hi => by
    refine Ev.step (fun k => rfl) (Ev.pos (by omega) (Ev.pos (by omega) (Ev.pos (by omega) (Ev.pos rfl ?_))))
    have e2 : wrap64 ((i : Int) + 1) = ((i + 1 : Nat) : Int) := wrap_succ (by omega)
    rw [e2]
    exact same_l0 l hl d (i + 1) (by omega)
theorem same_ev (l : List Int) (hl : l.length ≤ 5000) : Ev (fun k => bagnalllaw_sameBytes.f k l l) true := by
  unfold bagnalllaw_sameBytes.f
  exact Ev.pos rfl (same_l0 l hl l.length 0 (by omega))

theorem BaseByteses (s : ByteArray) : ∃ k, bagnalllaw_BaseByteses.f k s = some true := by
  refine Ev.rounds ?_
  unfold bagnalllaw_BaseByteses.f
  have go : ∀ (q : List Int × Int), q.1.length ≤ 5000 → Ev (fun k => base_Bytes.f k s) q → Ev (fun k => bagnallref_BaseBytes.f k s) q → Ev (fun k => (base_Bytes.f k s).bind fun bt130 => ((bagnallref_BaseBytes.f k s).bind fun bt134 => ((bagnalllaw_sameBytes.f k bt130.1 bt134.1).bind fun t138 => (if t138 = true then (some (bt130.2 == bt134.2)) else (some false))))) true :=
    fun q hq h1 h2 => Ev.bind h1 (Ev.bind h2 (Ev.bind (same_ev _ hq) (Ev.pos rfl (Ev.to (Ev.now _) (by simp)))))
  by_cases hs : s.size ≤ 1200
  · refine go _ ?_ (prog_ev s hs) (ref_ev s hs)
    cases hsc : scan s s.size 0 with
    | none => simp
    | some vs =>
      obtain ⟨_, h2, _⟩ := scan_says s s.size 0 vs hsc (by omega)
      have := dec_length vs
      show (if (decC vs).2 = true then ((nat (decC vs).1, 0) : List Int × Int) else ([], 4)).1.length ≤ 5000
      split
      · rw [nat_length]; omega
      · simp
  · refine go ([], 1) (by simp) ?_ ?_
    · unfold base_Bytes.f; exact Ev.pos (by omega) (Ev.now _)
    · unfold bagnallref_BaseBytes.f; exact Ev.pos (by omega) (Ev.now _)

theorem walkBaseByteses (W : World) (s : ByteArray) (_ : s.size ≤ 140737488351232) :
    Calls Try.prog 4 #[.string s] W fun e w' => e = .returned (.bool true) ∧ Below W.heap.size W w' := by
  obtain ⟨k, h⟩ := BaseByteses s
  exact bagnalllaw_BaseByteses.calls k s true W h
end Go.Proofs.Ytmecnjhjlhpehaa.Pure
