/- What the reference's BaseText answers: bytes as letters, three at a time: plain. -/
import Derived.Test.YtmecnjhjlhpehaaPlTbl
namespace Go.Proofs.Ytmecnjhjlhpehaa.Plain
open Go.RowKit Go.Proofs.Ytmecnjhjlhpehaa.Q Go.Proofs.Ytmecnjhjlhpehaa.Bits Go.Proofs.YtmecnjhjlhpehaaW.PrintWords Go.Proofs.YtmecnjhjlhpehaaW.PrintLast Go.Proofs.YtmecnjhjlhpehaaW.PrintMore

theorem letters_length (vs : List Nat) : (letters vs).length = vs.length := by simp [letters]
theorem tbl_size : tbl.size = 64 := rfl
theorem tbl_extract (v : Nat) (h : v < 64) : tbl.extract v (v + 1) = strOfNums (letters [v]) := by
  apply str_inj
  rw [bytes_extract]
  have hb : bt tbl (v : Int) = (bytesOf tbl)[v]'(by rw [size_bytes, tbl_size]; exact h) := bt_get (by rw [tbl_size]; exact h)
  have hr := bt_range tbl (v : Int)
  have e1 : bytesOf (strOfNums (letters [v])) = letters [v] := by
    rw [toList_bytes]
    rw [Go.ByteArray.toList_eq]
    simp [strOfNums, letters]
    omega
  rw [e1, List.take_succ_eq_append_getElem (by rw [size_bytes, tbl_size]; exact h), List.drop_append_of_le_length (by rw [List.length_take, size_bytes, tbl_size]; omega), List.drop_of_length_le (by rw [List.length_take]; omega), ← hb]
  rfl

theorem l2_eq (x0 : List Int) (x4 : ByteArray) (x5 x7 : Int) (x9 : List Int) (x10 : Int) (k : Nat) : bagnallref_BaseText.l2 (k + 1) x0 x4 x5 x7 x9 x10 = if x10 ≤ x7 then (if 0 ≤ x10 then (if x10 < (x9.length : Int) then (if 0 ≤ (rd x9 x10) then (if (rd x9 x10) ≤ (wrap64 ((rd x9 x10) + 1)) then (if (wrap64 ((rd x9 x10) + 1)) ≤ 64 then (if x4.size + (tbl.extract (rd x9 x10).toNat (wrap64 ((rd x9 x10) + 1)).toNat).size ≤ 9223372036854775807 then (bagnallref_BaseText.l2 k x0 (x4 ++ (tbl.extract (rd x9 x10).toNat (wrap64 ((rd x9 x10) + 1)).toNat)) x5 x7 x9 (wrap64 (x10 + 1))) else (none)) else (none)) else (none)) else (none)) else (none)) else (none)) else (bagnallref_BaseText.l0 k x0 x4 (wrap64 (x5 + 3))) := rfl

theorem l2_go (x0 : List Int) (x4 : ByteArray) (x5 : Int) (K j v : Nat) (x9 : List Int) (hj : j ≤ K) (hK : K ≤ 3) (hl : j < x9.length) (hr : rd x9 (j : Int) = (v : Int)) (hv : v < 64) (hs : x4.size ≤ 5000) (k : Nat) :
    bagnallref_BaseText.l2 (k + 1) x0 x4 x5 (K : Int) x9 (j : Int) = bagnallref_BaseText.l2 k x0 (x4 ++ strOfNums (letters [v])) x5 (K : Int) x9 ((j + 1 : Nat) : Int) := by
  have e1 : wrap64 ((v : Int) + 1) = ((v + 1 : Nat) : Int) := wrap_succ (by omega)
  have e2 : wrap64 ((j : Int) + 1) = ((j + 1 : Nat) : Int) := wrap_succ (by omega)
  have e3 : (strOfNums (letters [v])).size = 1 := by rw [strOfNums_size, letters_length]; rfl
  rw [l2_eq, if_pos (by omega), if_pos (by omega), if_pos (by omega), hr, e1, e2, Int.toNat_natCast, Int.toNat_natCast, tbl_extract v hv, if_pos (by omega), if_pos (by omega), if_pos (by omega), if_pos (by omega)]

theorem text_l2 (l acc : List Nat) (q K : Nat) (four : List Nat) (h4 : four.length = 4) (hf : ∀ v ∈ four, v < 64) (hK : K ≤ 3) (hq : q ≤ 300) (ha : acc.length ≤ 4000) (r : ByteArray × Int) : ∀ (d j : Nat) (out : List Nat), j + d = K + 1 → out.length ≤ acc.length + j →
    Ev (fun k => bagnallref_BaseText.l0 k (nat l) (strOfNums (letters (out ++ (four.drop j).take d))) ((3 * (q + 1) : Nat) : Int)) r → Ev (fun k => bagnallref_BaseText.l2 k (nat l) (strOfNums (letters out)) ((3 * q : Nat) : Int) (K : Int) (nat four) (j : Int)) r
  | 0, j, out, hj, ho, h => by
    have hneg : ¬ (j : Int) ≤ (K : Int) := by omega
    refine Ev.step (fun k => l2_eq (nat l) (strOfNums (letters out)) ((3 * q : Nat) : Int) (K : Int) (nat four) (j : Int) k) (Ev.neg hneg ?_)
    have e : wrap64 (((3 * q : Nat) : Int) + 3) = ((3 * (q + 1) : Nat) : Int) := by rw [wrap_in (by omega) (by omega)]; omega
    rw [e]
    simpa using h
  | d + 1, j, out, hj, ho, h => by
    have hlt : j < four.length := by omega
    have hv := hf _ (List.getElem_mem hlt)
    have er : rd (nat four) (j : Int) = ((four[j] : Nat) : Int) := by
      rw [rd_at (by rw [nat_length]; exact hlt)]
      simp [nat]
    refine Ev.step (fun k => l2_go (nat l) (strOfNums (letters out)) _ K j four[j] (nat four) (by omega) hK (by rw [nat_length]; exact hlt) er hv (by rw [strOfNums_size, letters_length]; omega) k) ?_
    rw [str_append, ← letters_append]
    refine text_l2 l acc q K four h4 hf hK hq ha r d (j + 1) _ (by omega) (by simp; omega) ?_
    rw [List.drop_eq_getElem_cons hlt, List.take_succ_cons] at h
    rw [List.append_assoc]
    exact h

theorem text_l1_in (l : List Nat) (x4 : ByteArray) (q K j n v : Nat) (hj : j < 3) (hK : j < K) (hq : 3 * q + j < l.length) (hl : l.length ≤ 900) (hr : rd (nat l) ((3 * q + j : Nat) : Int) = (v : Int)) (hv : v < 256) (hn : n < 65536) (r : ByteArray × Int)
    (h : Ev (fun k => bagnallref_BaseText.l1 k (nat l) x4 ((3 * q : Nat) : Int) ((n * 256 + v : Nat) : Int) (K : Int) ((j + 1 : Nat) : Int)) r) : Ev (fun k => bagnallref_BaseText.l1 k (nat l) x4 ((3 * q : Nat) : Int) (n : Int) (K : Int) (j : Int)) r := by
  have e0 : wrap64 (((3 * q : Nat) : Int) + (j : Int)) = ((3 * q + j : Nat) : Int) := by rw [wrap_in (by omega) (by omega)]; omega
  have e2 : wrap64 ((j : Int) + 1) = ((j + 1 : Nat) : Int) := wrap_succ (by omega)
  refine Ev.step (fun k => rfl) (Ev.pos (by omega) (Ev.pos (by omega) (Ev.pos (by rw [e0]; omega) (Ev.pos (by rw [e0, nat_length]; omega) ?_))))
  rw [e0, e2, hr, wrap_in (n := (n : Int) * 256) (by omega) (by omega), wrap_in (n := (v : Int)) (by omega) (by omega), wrap_in (by omega) (by omega)]
  have e3 : (n : Int) * 256 + (v : Int) = ((n * 256 + v : Nat) : Int) := by omega
  rw [e3]
  exact h
theorem rd_nat {l : List Nat} {i : Nat} (h : i < l.length) : rd (nat l) (i : Int) = ((l[i] : Nat) : Int) := by
  rw [rd_at (by rw [nat_length]; exact h)]
  simp [nat]
theorem text_l1_out (l : List Nat) (x4 : ByteArray) (q K j n : Nat) (hj : j < 3) (hK : ¬ j < K) (hn : n < 65536) (r : ByteArray × Int)
    (h : Ev (fun k => bagnallref_BaseText.l1 k (nat l) x4 ((3 * q : Nat) : Int) ((n * 256 : Nat) : Int) (K : Int) ((j + 1 : Nat) : Int)) r) : Ev (fun k => bagnallref_BaseText.l1 k (nat l) x4 ((3 * q : Nat) : Int) (n : Int) (K : Int) (j : Int)) r := by
  have e2 : wrap64 ((j : Int) + 1) = ((j + 1 : Nat) : Int) := wrap_succ (by omega)
  refine Ev.step (fun k => rfl) (Ev.pos (by omega) (Ev.neg (by omega) ?_))
  have e3 : wrap64 ((n : Int) * 256) = ((n * 256 : Nat) : Int) := by rw [wrap_in (by omega) (by omega)]; omega
  rw [e2, e3]
  exact h
theorem text_l1_end (l : List Nat) (acc : List Nat) (q K n : Nat) (hK : K ≤ 3) (hq : q ≤ 300) (ha : acc.length ≤ 4000) (hn : n < 16777216) (r : ByteArray × Int)
    (h : Ev (fun k => bagnallref_BaseText.l0 k (nat l) (strOfNums (letters (acc ++ [n / 262144, n / 4096 % 64, n / 64 % 64, n % 64].take (K + 1)))) ((3 * (q + 1) : Nat) : Int)) r) : Ev (fun k => bagnallref_BaseText.l1 k (nat l) (strOfNums (letters acc)) ((3 * q : Nat) : Int) (n : Int) (K : Int) ((3 : Nat) : Int)) r := by
  refine Ev.step (fun k => rfl) (Ev.neg (by omega) ?_)
  have e : ([wrap64 (Int.tdiv (n : Int) 262144), Int.tmod (wrap64 (Int.tdiv (n : Int) 4096)) 64, Int.tmod (wrap64 (Int.tdiv (n : Int) 64)) 64, Int.tmod (n : Int) 64] : List Int) = nat [n / 262144, n / 4096 % 64, n / 64 % 64, n % 64] := by
    have h1 : Int.tdiv (n : Int) 262144 = ((n / 262144 : Nat) : Int) := tdiv_cast n 262144
    have h2 : Int.tdiv (n : Int) 4096 = ((n / 4096 : Nat) : Int) := tdiv_cast n 4096
    have h3 : Int.tdiv (n : Int) 64 = ((n / 64 : Nat) : Int) := tdiv_cast n 64
    have h4 : ∀ x : Nat, Int.tmod (x : Int) 64 = ((x % 64 : Nat) : Int) := fun x => tmod_cast x 64
    rw [h1, h2, h3, wrap_cast (by omega), wrap_cast (by omega), wrap_cast (by omega), h4, h4, h4]
    rfl
  rw [e]
  refine text_l2 l acc q K _ rfl (by intro v hv; simp at hv; omega) hK hq ha r (K + 1) 0 acc (by omega) (by omega) ?_
  exact h

theorem mn_nat (a b : Nat) : mn (a : Int) (b : Int) = ((min a b : Nat) : Int) := by unfold mn; omega

theorem text_l0 (l : List Nat) (hl : l.length ≤ 900) (hb : ∀ b ∈ l, b < 256) : ∀ (f q : Nat) (acc : List Nat), l.length ≤ 3 * q + 3 * f → q ≤ 300 → acc.length ≤ 4 * q →
    Ev (fun k => bagnallref_BaseText.l0 k (nat l) (strOfNums (letters acc)) ((3 * q : Nat) : Int)) (strOfNums (letters (acc ++ encV (l.drop (3 * q)))), 0)
  | f, q, acc, hf, hq, ha => by
    by_cases hlt : 3 * q < l.length
    · obtain ⟨f, rfl⟩ : ∃ g, f = g + 1 := ⟨f - 1, by omega⟩
      have e0 : mn 3 (wrap64 (((nat l).length : Int) - ((3 * q : Nat) : Int))) = ((min 3 (l.length - 3 * q) : Nat) : Int) := by
        rw [nat_length, wrap_in (by omega) (by omega), show (l.length : Int) - ((3 * q : Nat) : Int) = ((l.length - 3 * q : Nat) : Int) by omega]
        exact mn_nat 3 _
      refine Ev.step (fun k => rfl) (Ev.pos (by rw [nat_length]; omega) ?_)
      rw [e0]
      have hd := List.drop_eq_getElem_cons hlt
      have h0 := hb _ (List.getElem_mem hlt)
      have r0 := rd_nat hlt
      generalize l[3 * q] = a at hd h0 r0
      by_cases h1 : 3 * q + 1 < l.length
      · have hd1 := List.drop_eq_getElem_cons h1
        have hb1 := hb _ (List.getElem_mem h1)
        have r1 := rd_nat h1
        generalize l[3 * q + 1] = b at hd1 hb1 r1
        by_cases h2 : 3 * q + 2 < l.length
        · have hd2 := List.drop_eq_getElem_cons h2
          have hb2 := hb _ (List.getElem_mem h2)
          have r2 := rd_nat h2
          generalize l[3 * q + 2] = c at hd2 hb2 r2
          rw [show min 3 (l.length - 3 * q) = 3 by clear r0 r1 r2; omega]
          refine text_l1_in l _ q 3 0 0 a (by clear r0 r1 r2; omega) (by clear r0 r1 r2; omega) (by clear r0 r1 r2; omega) (by clear r0 r1 r2; omega) r0 h0 (by clear r0 r1 r2; omega) _ ?_
          simp only [Nat.zero_mul, Nat.zero_add]
          refine text_l1_in l _ q 3 1 a b (by clear r0 r1 r2; omega) (by clear r0 r1 r2; omega) (by clear r0 r1 r2; omega) (by clear r0 r1 r2; omega) r1 hb1 (by clear r0 r1 r2; omega) _ ?_
          refine text_l1_in l _ q 3 2 (a * 256 + b) c (by clear r0 r1 r2; omega) (by clear r0 r1 r2; omega) (by clear r0 r1 r2; omega) (by clear r0 r1 r2; omega) r2 hb2 (by clear r0 r1 r2; omega) _ ?_
          refine text_l1_end l acc q 3 ((a * 256 + b) * 256 + c) (by clear r0 r1 r2; omega) (by clear r0 r1 r2; omega) (by clear r0 r1 r2; omega) (by clear r0 r1 r2; omega) _ ?_
          have ih := text_l0 l hl hb f (q + 1) (acc ++ [a / 4, a % 4 * 16 + b / 16, b % 16 * 4 + c / 64, c % 64]) (by clear r0 r1 r2; omega) (by clear r0 r1 r2; omega) (by simp; omega)
          have e : ([(a * 256 + b) * 256 + c].flatMap fun n => [n / 262144, n / 4096 % 64, n / 64 % 64, n % 64].take (3 + 1)) = [a / 4, a % 4 * 16 + b / 16, b % 16 * 4 + c / 64, c % 64] := by
            simp only [List.flatMap_cons, List.flatMap_nil, List.append_nil, List.take, List.cons.injEq, and_true]
            clear r0 r1 r2; omega
          simp only [List.flatMap_cons, List.flatMap_nil, List.append_nil] at e
          rw [e]
          refine Ev.to ih ?_
          rw [hd, hd1, hd2, show 3 * q + 2 + 1 = 3 * (q + 1) by clear r0 r1 r2; omega]
          simp [encV, List.append_assoc]
        · rw [show min 3 (l.length - 3 * q) = 2 by clear r0 r1; omega]
          refine text_l1_in l _ q 2 0 0 a (by clear r0 r1; omega) (by clear r0 r1; omega) (by clear r0 r1; omega) (by clear r0 r1; omega) r0 h0 (by clear r0 r1; omega) _ ?_
          simp only [Nat.zero_mul, Nat.zero_add]
          refine text_l1_in l _ q 2 1 a b (by clear r0 r1; omega) (by clear r0 r1; omega) (by clear r0 r1; omega) (by clear r0 r1; omega) r1 hb1 (by clear r0 r1; omega) _ ?_
          refine text_l1_out l _ q 2 2 (a * 256 + b) (by clear r0 r1; omega) (by clear r0 r1; omega) (by clear r0 r1; omega) _ ?_
          refine text_l1_end l acc q 2 ((a * 256 + b) * 256) (by clear r0 r1; omega) (by clear r0 r1; omega) (by clear r0 r1; omega) (by clear r0 r1; omega) _ ?_
          have ih := text_l0 l hl hb f (q + 1) (acc ++ [a / 4, a % 4 * 16 + b / 16, b % 16 * 4]) (by clear r0 r1; omega) (by clear r0 r1; omega) (by simp; omega)
          have e : ([(a * 256 + b) * 256].flatMap fun n => [n / 262144, n / 4096 % 64, n / 64 % 64, n % 64].take (2 + 1)) = [a / 4, a % 4 * 16 + b / 16, b % 16 * 4] := by
            simp only [List.flatMap_cons, List.flatMap_nil, List.append_nil, List.take, List.cons.injEq, and_true]
            clear r0 r1; omega
          simp only [List.flatMap_cons, List.flatMap_nil, List.append_nil] at e
          rw [e]
          refine Ev.to ih ?_
          rw [hd, hd1, List.drop_of_length_le (by clear r0 r1; omega : l.length ≤ 3 * q + 1 + 1), List.drop_of_length_le (by clear r0 r1; omega : l.length ≤ 3 * (q + 1))]
          simp [encV]
      · rw [show min 3 (l.length - 3 * q) = 1 by omega]
        refine text_l1_in l _ q 1 0 0 a (by omega) (by omega) (by omega) (by omega) r0 h0 (by omega) _ ?_
        simp only [Nat.zero_mul, Nat.zero_add]
        refine text_l1_out l _ q 1 1 a (by omega) (by omega) (by omega) _ ?_
        refine text_l1_out l _ q 1 2 (a * 256) (by omega) (by omega) (by omega) _ ?_
        refine text_l1_end l acc q 1 (a * 256 * 256) (by omega) (by omega) (by omega) (by omega) _ ?_
        have ih := text_l0 l hl hb f (q + 1) (acc ++ [a / 4, a % 4 * 16]) (by omega) (by omega) (by simp; omega)
        have e : ([a * 256 * 256].flatMap fun n => [n / 262144, n / 4096 % 64, n / 64 % 64, n % 64].take (1 + 1)) = [a / 4, a % 4 * 16] := by
          simp only [List.flatMap_cons, List.flatMap_nil, List.append_nil, List.take, List.cons.injEq, and_true]
          omega
        simp only [List.flatMap_cons, List.flatMap_nil, List.append_nil] at e
        rw [e]
        refine Ev.to ih ?_
        rw [hd, List.drop_of_length_le (by omega : l.length ≤ 3 * q + 1), List.drop_of_length_le (by omega : l.length ≤ 3 * (q + 1))]
        simp [encV]
    · refine Ev.step (fun k => rfl) (Ev.neg (by rw [nat_length]; omega) (Ev.to (Ev.now _) ?_))
      rw [List.drop_of_length_le (by omega)]
      simp [encV]
theorem text_ev (l : List Nat) (hl : l.length ≤ 600) (hb : ∀ b ∈ l, b < 256) : Ev (fun k => bagnallref_BaseText.f k (nat l)) (strOfNums (letters (encV l)), 0) := by
  unfold bagnallref_BaseText.f
  exact Ev.neg (by rw [nat_length]; omega) (text_l0 l (by omega) hb 300 0 [] (by omega) (by omega) (by simp))
end Go.Proofs.Ytmecnjhjlhpehaa.Plain
