/- Texts of this claim, laid together: PlWal, QSb2, QDp, QDr, QSr, PureStorePlays. -/
import Derived.Deep.RegionLaw
import Derived.Deep.RegionHeld3
import Derived.Test.YtnjidfgjldkkcaaMStorePlays3
/- Plain laws of records that come in batches: the two sums, a batch's bytes. -/
namespace Go.Proofs.Ytnjidfgjldkkcaa.Plain
open Go.RowKit Go.Proofs.Ytnjidfgjldkkcaa.Q Go.Proofs.YtnjidfgjldkkcaaW.PrintWords
/-- A list of bytes. -/
def ByteL (l : List Int) : Prop := ∀ x ∈ l, 0 ≤ x ∧ x ≤ 255
def sA : List Int → Int
  | [] => 0
  | x :: t => (x + 1) + sA t
def sB : List Int → Int
  | [] => 0
  | x :: t => ((t.length : Int) + 1) * (x + 1) + sB t
theorem byteL_tail {x : Int} {t : List Int} (h : ByteL (x :: t)) : ByteL t := fun y hy => h y (by simp [hy])
theorem sumA_eq {a x : Int} (ha : 0 ≤ a ∧ a < 251) (hx : 0 ≤ x ∧ x ≤ 255) : sumA a x = (a + x + 1) % 251 := by
  unfold sumA
  rw [wrap_in (n := x) (by omega) (by omega), wrap_in (n := a + x) (by omega) (by omega), wrap_in (by omega) (by omega), Int.tmod_eq_emod_of_nonneg (by omega)]
theorem sumB_eq {a b : Int} (ha : 0 ≤ a ∧ a < 251) (hb : 0 ≤ b ∧ b < 251) : sumB b a = (b + a) % 251 := by
  unfold sumB
  rw [wrap_in (by omega) (by omega), Int.tmod_eq_emod_of_nonneg (by omega)]
theorem sumsF_eq : ∀ (l : List Int) (a b : Int), (0 ≤ a ∧ a < 251) → (0 ≤ b ∧ b < 251) → ByteL l → sumsF a b l = ((a + sA l) % 251, (b + (l.length : Int) * a + sB l) % 251)
  | [], a, b, ha, hb, _ => by
    simp only [sumsF, sA, sB, List.length_nil]
    rw [Int.emod_eq_of_lt (by omega) (by omega), Int.emod_eq_of_lt (by simp; omega) (by simp; omega)]
    simp
  | x :: t, a, b, ha, hb, hl => by
    have hx := hl x (by simp)
    simp only [sumsF]
    rw [sumA_eq ha hx]
    have ha' : 0 ≤ (a + x + 1) % 251 ∧ (a + x + 1) % 251 < 251 := ⟨by omega, by omega⟩
    rw [sumB_eq ha' hb]
    have hb' : 0 ≤ (b + (a + x + 1) % 251) % 251 ∧ (b + (a + x + 1) % 251) % 251 < 251 := ⟨by omega, by omega⟩
    rw [sumsF_eq t _ _ ha' hb' (byteL_tail hl)]
    simp only [sA, sB, List.length_cons]
    obtain ⟨q, hq⟩ : ∃ q, (a + x + 1) % 251 = a + x + 1 - 251 * q := ⟨(a + x + 1) / 251, by omega⟩
    rw [hq]
    have e1 : ((t.length : Int)) * (a + x + 1 - 251 * q) = (t.length : Int) * a + (t.length : Int) * (x + 1) - 251 * ((t.length : Int) * q) := by
      rw [Int.mul_sub, show a + x + 1 = a + (x + 1) by omega, Int.mul_add, Int.mul_left_comm]
    have e2 : ((t.length : Int) + 1) * (x + 1) = (t.length : Int) * (x + 1) + (x + 1) := by rw [Int.add_mul, Int.one_mul]
    have e3 : (((t.length + 1 : Nat) : Int)) * a = (t.length : Int) * a + a := by rw [Int.natCast_add, Int.add_mul]; simp
    rw [e1, e2, e3]
    generalize (t.length : Int) * a = p1
    generalize (t.length : Int) * (x + 1) = p2
    generalize (t.length : Int) * q = p3
    congr 1
    · omega
    · omega
theorem sA_bound : ∀ l : List Int, ByteL l → 0 ≤ sA l ∧ sA l ≤ 256 * l.length
  | [], _ => by simp [sA]
  | x :: t, h => by
    have := sA_bound t (byteL_tail h)
    have hx := h x (by simp)
    simp only [sA, List.length_cons]
    omega
theorem sB_bound : ∀ (l : List Int) (n : Nat), ByteL l → l.length ≤ n → 0 ≤ sB l ∧ sB l ≤ 256 * n * l.length
  | [], n, _, _ => by simp [sB]
  | x :: t, n, h, hn => by
    simp only [List.length_cons] at hn
    have := sB_bound t n (byteL_tail h) (by omega)
    have hx := h x (by simp)
    simp only [sB, List.length_cons]
    have h1 : 0 ≤ ((t.length : Int) + 1) * (x + 1) := Int.mul_nonneg (by omega) (by omega)
    have h2 : ((t.length : Int) + 1) * (x + 1) ≤ (n : Int) * 256 := Int.mul_le_mul (by omega) (by omega) (by omega) (by omega)
    have h3 : (256 * (n : Int) * ((t.length + 1 : Nat) : Int)) = 256 * (n : Int) * (t.length : Int) + (n : Int) * 256 := by rw [Int.natCast_add, Int.mul_add]; simp [Int.mul_comm]
    rw [h3]
    omega
theorem refSum_l0 (l : List Int) (hb : ByteL l) (hl : l.length ≤ 1000) : ∀ (d i : Nat) (a b : Int), i + d = l.length → 0 ≤ a → a ≤ 256 * i → 0 ≤ b → b ≤ 256000 * i →
    Ev (fun k => bagnallref_walSums.l0 k l a b l (l.length : Int) (i : Int)) ((a + sA (l.drop i)) % 251, (b + sB (l.drop i)) % 251)
  | 0, i, a, b, hi, ha, ha', hb0, hb' => by
    rw [List.drop_of_length_le (by omega)]
    refine Ev.step (fun k => rfl) (Ev.neg (by omega) (Ev.to (Ev.now _) ?_))
    simp only [sA, sB, Int.add_zero]
    rw [Int.tmod_eq_emod_of_nonneg ha, Int.tmod_eq_emod_of_nonneg hb0]
  | d + 1, i, a, b, hi, ha, ha', hb0, hb' => by
    have hlt : i < l.length := by omega
    have e2 : wrap64 ((i : Int) + 1) = ((i + 1 : Nat) : Int) := wrap_succ (by omega)
    refine Ev.step (fun k => rfl) (Ev.pos (by omega) (Ev.pos (by omega) (Ev.pos (by omega) ?_)))
    have hx := hb l[i] (List.getElem_mem hlt)
    rw [e2, rd_at hlt, List.drop_eq_getElem_cons hlt]
    generalize l[i] = x at hx
    rw [wrap_in (n := x) (by omega) (by omega), wrap_in (n := x + 1) (by omega) (by omega), wrap_in (n := (l.length : Int) - i) (by omega) (by omega)]
    have h1 : 0 ≤ ((l.length : Int) - i) * (x + 1) := Int.mul_nonneg (by omega) (by omega)
    have h2 : ((l.length : Int) - i) * (x + 1) ≤ 1000 * 256 := Int.mul_le_mul (by omega) (by omega) (by omega) (by omega)
    have e3 : ((((l.drop (i + 1)).length : Nat) : Int) + 1) * (x + 1) = ((l.length : Int) - i) * (x + 1) := by
      congr 1
      rw [List.length_drop]
      omega
    have ih := refSum_l0 l hb hl d (i + 1) (a + (x + 1)) (b + ((l.length : Int) - i) * (x + 1)) (by omega) (by omega) (by omega) (by omega) (by omega)
    rw [wrap_in (n := ((l.length : Int) - i) * (x + 1)) (by omega) (by omega), wrap_in (n := a + (x + 1)) (by omega) (by omega), wrap_in (n := b + ((l.length : Int) - i) * (x + 1)) (by omega) (by omega)]
    simp only [sA, sB]
    rw [e3]
    exact Ev.to ih (by rw [Int.add_assoc a (x + 1), Int.add_assoc b])
theorem refSum_ev (l : List Int) (hb : ByteL l) (hl : l.length ≤ 1000) : Ev (fun k => bagnallref_walSums.f k l) (sumsF 0 0 l) := by
  have h := refSum_l0 l hb hl l.length 0 0 0 (by omega) (by omega) (by omega) (by omega) (by omega)
  rw [List.drop_zero] at h
  rw [sumsF_eq l 0 0 (by omega) (by omega) hb]
  refine Ev.to h ?_
  simp
theorem frameB_byte {r : List Int} (h : ByteL r) (b : Bool) : ByteL (frameB r b) := by
  intro x hx
  simp only [frameB, List.cons_append, List.nil_append, List.mem_cons] at hx
  rcases hx with rfl | rfl | hx
  · omega
  · cases b <;> simp [flagOf]
  · exact h x hx
theorem rd4_at {l : List (List Int)} {i : Nat} (h : i < l.length) : rd_L4 l (i : Int) = l[i] := rdL1_at h
theorem packF_len : ∀ l : List (List Int), (∀ r ∈ l, r.length ≤ 60) → (packF l).length ≤ 64 * l.length
  | [], _ => by simp [packF]
  | r :: t, h => by
    have := packF_len t (fun x hx => h x (by simp [hx]))
    have hr := h r (by simp)
    simp only [packF, List.length_append, frameF_length, List.length_cons]
    omega
theorem refPack_l1 (l : List (List Int)) (hl : l.length ≤ 60) (hb : ∀ r ∈ l, ByteL r ∧ r.length ≤ 60) : ∀ (d i : Nat) (x : List Int), i + d = l.length → x.length ≤ 64 * i →
    Ev (fun k => bagnallref_WalPack.l1 k l x l (l.length : Int) (i : Int)) (x ++ packF (l.drop i), 0)
  | 0, i, x, hi, hx => by
    rw [List.drop_of_length_le (by omega), packF, List.append_nil]
    exact Ev.step (fun k => rfl) (Ev.neg (by omega) (Ev.now _))
  | d + 1, i, x, hi, hx => by
    have hlt : i < l.length := by omega
    have e2 : wrap64 ((i : Int) + 1) = ((i + 1 : Nat) : Int) := wrap_succ (by omega)
    refine Ev.step (fun k => rfl) (Ev.pos (by omega) (Ev.pos (by omega) (Ev.pos (by omega) ?_)))
    have hr := hb l[i] (List.getElem_mem hlt)
    have hp : packF (l.drop i) = frameF l[i] (l.drop (i + 1)).isEmpty ++ packF (l.drop (i + 1)) := by rw [List.drop_eq_getElem_cons hlt]; rfl
    rw [rd4_at hlt, e2, hp, ← List.append_assoc]
    generalize l[i] = r at hr
    obtain ⟨hrb, hrl⟩ := hr
    have hfb : ∀ b, (frameB r b).length = r.length + 2 := fun b => by simp [frameB]
    have fin : ∀ b, Ev (fun k => bagnallref_WalPack.l1 k l (x ++ frameB r b ++ [(sumsF 0 0 (frameB r b)).1 % 256, (sumsF 0 0 (frameB r b)).2 % 256]) l (l.length : Int) ((i + 1 : Nat) : Int)) (x ++ frameF r b ++ packF (l.drop (i + 1)), 0) := by
      intro b
      have ih := refPack_l1 l hl hb d (i + 1) (x ++ frameF r b) (by omega) (by rw [List.length_append, frameF_length]; omega)
      have e : x ++ frameB r b ++ [(sumsF 0 0 (frameB r b)).1 % 256, (sumsF 0 0 (frameB r b)).2 % 256] = x ++ frameF r b := by rw [List.append_assoc]; rfl
      rw [e]
      exact ih
    refine Ev.bind (Ev.lift (r := [(r.length : Int) % 256, 0]) rfl) ?_
    by_cases hlast : ((i + 1 : Nat) : Int) = (l.length : Int)
    · have hE : (l.drop (i + 1)).isEmpty = true := by rw [List.isEmpty_iff_length_eq_zero, List.length_drop]; omega
      rw [hE]
      refine Ev.pos hlast (Ev.pos (by simp) (Ev.bind (Ev.lift (r := [(r.length : Int) % 256, 1]) rfl) (Ev.pos (by simp; omega) ?_)))
      refine Ev.bind (Ev.lift (r := frameB r true) rfl) (Ev.bind (refSum_ev _ (frameB_byte hrb true) (by rw [hfb]; omega)) (Ev.pos (by rw [hfb]; omega) ?_))
      exact Ev.bind (Ev.lift rfl) (Ev.bind (Ev.lift rfl) (Ev.pos (by simp [hfb]; omega) (fin true)))
    · have hE : (l.drop (i + 1)).isEmpty = false := by
        rw [Bool.eq_false_iff, ne_eq, List.isEmpty_iff_length_eq_zero, List.length_drop]; omega
      rw [hE]
      refine Ev.neg hlast (Ev.pos (by simp; omega) ?_)
      refine Ev.bind (Ev.lift (r := frameB r false) rfl) (Ev.bind (refSum_ev _ (frameB_byte hrb false) (by rw [hfb]; omega)) (Ev.pos (by rw [hfb]; omega) ?_))
      exact Ev.bind (Ev.lift rfl) (Ev.bind (Ev.lift rfl) (Ev.pos (by simp [hfb]; omega) (fin false)))
theorem refPack_l0 (l : List (List Int)) (hl : l.length ≤ 60) : ∀ (d i : Nat) (r : List Int × Int), i + d = l.length → ((l.drop i).any oddF = false → Ev (fun k => bagnallref_WalPack.l1 k l ([] : List Int) l (l.length : Int) 0) r) → ((l.drop i).any oddF = true → r = ([], 1)) →
    Ev (fun k => bagnallref_WalPack.l0 k l l (l.length : Int) (i : Int)) r
  | 0, i, r, hi, h1, _ => by
    rw [List.drop_of_length_le (by omega)] at h1
    exact Ev.step (fun k => rfl) (Ev.neg (by omega) (h1 rfl))
  | d + 1, i, r, hi, h1, h2 => by
    have hlt : i < l.length := by omega
    have e2 : wrap64 ((i : Int) + 1) = ((i + 1 : Nat) : Int) := wrap_succ (by omega)
    refine Ev.step (fun k => rfl) (Ev.pos (by omega) (Ev.pos (by omega) (Ev.pos (by omega) ?_)))
    rw [List.drop_eq_getElem_cons hlt, List.any_cons] at h1 h2
    rw [rd4_at hlt, e2]
    by_cases hz : (l[i].length : Int) = 0
    · have : oddF l[i] = true := by unfold oddF; rw [show l[i].length = 0 by omega]; rfl
      exact Ev.pos hz (Ev.to (Ev.now _) (h2 (by rw [this]; rfl)).symm)
    · by_cases h60 : (l[i].length : Int) > 60
      · have : oddF l[i] = true := by unfold oddF; rw [decide_eq_false (show ¬ l[i].length ≤ 60 by omega), Bool.and_false]; rfl
        exact Ev.neg hz (Ev.pos h60 (Ev.to (Ev.now _) (h2 (by rw [this]; rfl)).symm))
      · have : oddF l[i] = false := by unfold oddF; rw [decide_eq_true (show l[i].length ≤ 60 by omega), decide_eq_true (show 1 ≤ l[i].length by omega)]; rfl
        rw [this, Bool.false_or] at h1 h2
        exact Ev.neg hz (Ev.neg h60 (refPack_l0 l hl d (i + 1) r (by omega) h1 h2))
theorem j0_true (k : Nat) (l : List (List Int)) : bagnallref_WalPack.j0 (k + 1) l true = some (([] : List Int), 1) := rfl
theorem j0_false (k : Nat) (l : List (List Int)) : bagnallref_WalPack.j0 (k + 1) l false = bagnallref_WalPack.l0 k l l (l.length : Int) 0 := rfl
theorem refPack_ev (l : List (List Int)) (hb : ∀ r ∈ l, ByteL r) : Ev (fun k => bagnallref_WalPack.f k l) (if packOdd l = true then ([], 1) else (packF l, 0)) := by
  unfold bagnallref_WalPack.f
  by_cases h0 : l.length = 0
  · have hp : packOdd l = true := by unfold packOdd; rw [h0]; rfl
    rw [if_pos hp]
    exact Ev.pos (by omega) (Ev.step (fun k => j0_true k l) (Ev.now _))
  refine Ev.neg (by omega) ?_
  by_cases h60 : (l.length : Int) > 60
  · have hp : packOdd l = true := by unfold packOdd; rw [decide_eq_true (show 60 < l.length by omega)]; simp
    rw [if_pos hp, decide_eq_true h60]
    exact Ev.step (fun k => j0_true k l) (Ev.now _)
  have hp : packOdd l = l.any oddF := by unfold packOdd; rw [decide_eq_false (show ¬ 60 < l.length by omega), decide_eq_false (show ¬ l.length < 1 by omega)]; simp
  rw [hp, decide_eq_false h60]
  refine Ev.step (fun k => j0_false k l) ?_
  refine refPack_l0 l (by omega) l.length 0 _ (by omega) (fun h => ?_) (fun h => ?_)
  · rw [List.drop_zero] at h
    rw [h]
    have hs : ∀ r ∈ l, ByteL r ∧ r.length ≤ 60 := fun r hr => ⟨hb r hr, by
      have := List.any_eq_false.1 h r hr
      unfold oddF at this
      simp at this
      omega⟩
    have := refPack_l1 l (by omega) hs l.length 0 [] (by omega) (by simp)
    rw [List.drop_zero, List.nil_append] at this
    exact this
  · rw [List.drop_zero] at h
    rw [h]; rfl
theorem sameB_l0 (l : List Int) (hl : l.length ≤ 1000000) : ∀ (d i : Nat), i + d = l.length → Ev (fun n => bagnalllaw_sameBytes.l0 n l l (i : Int)) true
  | 0, i, hi => Ev.step (fun k => rfl) (Ev.neg (by omega) (Ev.now _))
  | d + 1, i, hi => by
    have e2 : wrap64 ((i : Int) + 1) = ((i + 1 : Nat) : Int) := wrap_succ (by omega)
    refine Ev.step (fun k => rfl) (Ev.pos (by omega) (Ev.pos (by omega) (Ev.pos (by omega) (Ev.pos rfl ?_))))
    rw [e2]
    exact sameB_l0 l hl d (i + 1) (by omega)
theorem sameB_ev (l : List Int) (hl : l.length ≤ 1000000) : Ev (fun n => bagnalllaw_sameBytes.f n l l) true := by
  unfold bagnalllaw_sameBytes.f
  exact Ev.pos rfl (sameB_l0 l hl l.length 0 (by omega))
end Go.Proofs.Ytnjidfgjldkkcaa.Plain
/- bagnallref.storeBatch, walked. -/
namespace Go.Proofs.Ytnjidfgjldkkcaa.Q
open Go.RowKit Go.Proofs.YtnjidfgjldkkcaaW.PrintWords Go.Proofs.YtnjidfgjldkkcaaW.PrintLast Go.Proofs.YtnjidfgjldkkcaaW.PrintMore Go.Proofs.Ytnjidfgjldkkcaa.Plain
theorem records_pack (l : List S69) (h0 : l ≠ []) (hl : l.length ≤ 60) (hs : ∀ r ∈ l, OkR r) : packOdd (l.map recordF) = false := by
  unfold packOdd
  have h1 : ¬ (l.map recordF).length < 1 := by
    rw [List.length_map]
    cases l with
    | nil => exact absurd rfl h0
    | cons a t => simp
  have h2 : ¬ 60 < (l.map recordF).length := by rw [List.length_map]; omega
  have h3 : (l.map recordF).any oddF = false := List.any_eq_false.2 fun r hr => by
    obtain ⟨q, hq, rfl⟩ := List.mem_map.1 hr
    have := hs q hq
    have h4 := recordF_length q
    have h5 := this.2.1
    have h6 := this.2.2
    unfold oddF
    rw [decide_eq_true (show 1 ≤ (recordF q).length by omega), decide_eq_true (show (recordF q).length ≤ 60 by omega)]
    simp
  rw [decide_eq_false h1, decide_eq_false h2, h3]
  rfl
theorem refWalPack_walk (A : Option Addr) (c : Nat) (l : List S69) (w : World) (hr : Kd.C kB w A (l.map recordF).length (l.map recordF)) (hc : (l.map recordF).length ≤ c) (h0 : l ≠ []) (hl : l.length ≤ 60) (hs : ∀ r ∈ l, OkR r) :
    Calls Try.prog 28 #[.slice A (l.map recordF).length c] w fun e w' => ∃ v0_ : Value, e = .returned (.tuple #[v0_, .int .i64 0]) ∧ Kd.R (Kd.int .u8) 5 w' w.heap.size (fun _ => True) v0_ (batchF l) ∧ Below w.heap.size w w' := by
  obtain ⟨n, hn⟩ := (refPack_ev (l.map recordF) (fun r hr x hx => by
    obtain ⟨q, hq, rfl⟩ := List.mem_map.1 hr
    unfold recordF at hx
    rcases List.mem_cons.1 hx with rfl | hx
    · have := (hs q hq).2.1; omega
    · rcases List.mem_append.1 hx with hx | hx <;> exact bytesOf_byte _ x hx)).rounds
  rw [records_pack l h0 hl hs, if_neg (by simp)] at hn
  exact bagnallref_WalPack.calls n A c (l.map recordF) _ _ w hr hc hn
set_option maxRecDepth 100000 in
set_option maxHeartbeats 8000000 in
theorem refBatch_walk (A : Option Addr) (c : Nat) (l : List S69) (w : World) (hr : Kd.C k69 w A l.length l) (hc : l.length ≤ c) (h0 : l ≠ []) (hl : l.length ≤ 60) (hs : ∀ r ∈ l, OkR r) :
    Calls Try.prog 62 #[.slice A l.length c] w fun e w' => ∃ v, e = .returned v ∧ (Kd.int .u8).R 5 w' w.heap.size (fun _ => True) v (batchF l) ∧ Below w.heap.size w w' := by
  have HR := Aside0.mk hr
  have HC := Aside0.mk hc
  have HS := Aside0.mk hs
  have H28 : Aside0 (∀ W A c, Kd.C kB W A (l.map recordF).length (l.map recordF) → (l.map recordF).length ≤ c → Calls Try.prog 28 #[.slice A (l.map recordF).length c] W fun e w' => ∃ v0_ : Value, e = .returned (.tuple #[v0_, .int .i64 0]) ∧ Kd.R (Kd.int .u8) 5 w' W.heap.size (fun _ => True) v0_ (batchF l) ∧ Below W.heap.size W w') := ⟨fun W A c h1 h2 => refWalPack_walk A c l W h1 h2 h0 hl hs⟩
  clear hr hc hs h0
  go_enter Try.func62, Try.ntmps62
  go_wp2
  go_loopw [3, 11] (fun v vi wr => ∃ (i : Nat), vi = .int .i64 i ∧ Aside0 (i ≤ l.length) ∧ Aside0 (Kd.R kB 36 wr w.heap.size (fun _ => True) v ((l.take i).map recordF)) ∧ Aside0 (Below w.heap.size w wr)) (fun _ vi _ => l.length - (intOf vi).toNat)
  case atStart => exact ⟨0, rfl, ⟨Nat.zero_le _⟩, ⟨Kd.R_nil _ _ _ _ _⟩, ⟨Below.refl _ _⟩⟩
  case round =>
    obtain ⟨i, rfl, hi, HO, HB⟩ := hrel
    have hi' := hi.out
    by_cases hlt : i < l.length
    · obtain ⟨ad, rfl, x0, x1⟩ := at_T69 (Kd.C_below HR.out HB.out) (i : Int) (by omega) (by omega)
      obtain ⟨r, hr⟩ : ∃ r, Aside0 (r = rd_T69 l (i : Int)) := ⟨_, ⟨rfl⟩⟩
      rw [← hr.out] at x0 x1
      rw [Int.toNat_natCast] at x0 x1
      have hrs : Aside0 (OkR r) := ⟨by rw [hr.out, rd69 hlt]; exact HS.out _ (List.getElem_mem hlt)⟩
      have htk : Aside0 ((l.take i).map recordF ++ [recordF r] = (l.take (i + 1)).map recordF) := ⟨by rw [hr.out, rd69 hlt, List.take_succ_eq_append_getElem hlt, List.map_append]; rfl⟩
      have hln : Aside0 (((l.take i).map recordF).length = i) := ⟨by rw [List.length_map, List.length_take]; omega⟩
      clear hr
      obtain ⟨k, u⟩ := r
      generalize (l.take i).map recordF = out at *
      have hk20 := hrs.out.2.1
      have hu20 := hrs.out.2.2
      simp only at hk20 hu20
      have hwk : IntKind.u8.wrap (k.size : Int) = (k.size : Int) := by rw [IntKind.wrap_u8]; omega
      obtain ⟨o1, ho1⟩ : ∃ o1, o1 = Obj.cells #[.string k, .string u] 69 := ⟨_, rfl⟩
      have hlit : Aside0 ((Kd.int .u8).R 5 ((wr.alloc o1).alloc (.cells #[.int .u8 (k.size : Int)] 5)) (wr.heap.size + 1) (fun _ => True) (.slice (some ⟨wr.heap.size + 1, 0, none⟩) 1 1) [(k.size : Int)]) := ⟨by
        have := lit_R (wr.alloc o1) (wr.heap.size + 1) (k.size : Int) (by simp)
        simpa using this⟩
      have hB1 : Aside0 (Below (wr.heap.size + 1) (wr.alloc o1) ((wr.alloc o1).alloc (.cells #[.int .u8 (k.size : Int)] 5))) := ⟨by have := below_alloc (Below.refl (wr.alloc o1).heap.size (wr.alloc o1)) (.cells #[.int .u8 (k.size : Int)] 5); simpa using this⟩
      have hB0 : Aside0 (Below wr.heap.size wr (wr.alloc o1)) := ⟨below_alloc (Below.refl _ _) _⟩
      have hz1 : Aside0 ((wr.alloc o1).cell? ⟨wr.heap.size, 1, none⟩ = some (.string u)) := ⟨by rw [ho1, blk_cell (blk_new wr _)]; rfl⟩
      subst ho1
      go_wp2_with (first | ((with_reducible refine gate_builtin (b := .append) (xs := #[.tmp 20, .tmp 22]) rfl ?_); at_builtin; refine R_append_str (w0 := wr.alloc (.cells #[.string k, .string u] 69)) (wr.heap.size + 1) (by simp [Region.wanted]) (.tmp 20) (.tmp 22) 36 9 5 rfl Try.underlying36 Try.underlying9 info5 (.slice (some ⟨wr.heap.size + 1, 0, none⟩) 1 1) [(k.size : Int)] k rfl rfl hlit.out hB1.out (by simp) (by simp; omega) ?_; intro v1 w1 ho hb; obtain ⟨A1, c1, rfl⟩ := Kd.R_slice ho; have HO1 := Aside0.mk ho; have HB1 := Aside0.mk hb; have y1 := (hb.cell (p := ⟨wr.heap.size, 1, none⟩) (by show wr.heap.size < wr.heap.size + 1; omega)).trans hz1.out; clear ho hb) | ((with_reducible refine gate_builtin (b := .append) (xs := #[.tmp 25, .tmp 27]) rfl ?_); at_builtin; refine R_append_str (w0 := wr.alloc (.cells #[.string k, .string u] 69)) (wr.heap.size + 1) (by simp [Region.wanted]) (.tmp 25) (.tmp 27) 36 9 5 rfl Try.underlying36 Try.underlying9 info5 (.slice A1 _ c1) ([(k.size : Int)] ++ bytesOf k) u rfl rfl HO1.out HB1.out (by have := HB1.out.size; simpa using this) (by rw [List.length_append, bytesOf_length]; simp; omega) ?_; intro v2 w2 ho hb; rw [List.append_assoc] at ho; replace ho : (Kd.int .u8).R 5 w2 (wr.heap.size + 1) (fun _ => True) v2 (recordF ⟨k, u⟩) := ho; obtain ⟨A2, c2, rfl⟩ := Kd.R_slice ho; have HD := Aside0.mk (below_step hB0.out (show Below (wr.alloc (.cells #[.string k, .string u] 69)).heap.size (wr.alloc (.cells #[.string k, .string u] 69)) w2 from (by simpa using hb))); have HB2 := Aside0.mk (below_step HB.out HD.out); have HO2 := Aside0.mk (Kd.R_mono (ok' := fun q => wr.heap.size ≤ q) (Kd.R_lower (Kd.R_bound ho) (base' := w.heap.size) (Nat.le_trans HB.out.size (by omega))) (fun q hq => (by have := hq.2.1; omega))); have HO3 := Aside0.mk (Kd.R_below HO.out HD.out); have hap : Aside0 (∀ q, wr.heap.size ≤ q → True ∧ some q ≠ u3.ownBlock) := ⟨fun q hq => ⟨trivial, fun he => (by have := Kd.R_lt HO.out q he.symm; omega)⟩⟩; clear ho hb) | ((with_reducible refine gate_builtin (b := .append) (xs := #[.tmp 24, .tmp 29]) rfl ?_); at_builtin; refine Kd.R_append kB (w0 := w) w.heap.size rfl (.tmp 24) (.tmp 29) 35 36 (.slice none 0 0) 24 rfl Try.underlying35 info36 rfl (by decide) (by omega) u3 out (recordF ⟨k, u⟩) [.slice A2 (recordF ⟨k, u⟩).length c2] (fun _ => True) (fun q => wr.heap.size ≤ q) rfl rfl ⟨_, rfl, HO2.out⟩ hap.out (fun _ _ => trivial) HO3.out HB2.out (below_size HB2.out) (by have := hln.out; omega) ?_; intro v4 w3 ho hb hg hat; obtain ⟨A4, c4, rfl⟩ := Kd.R_slice ho; rw [List.length_append, List.length_singleton, htk.out] at ho; have HO4 := Aside0.mk ho; have HB4 := Aside0.mk hb; clear ho hb hg hat))
      go_roundw
      case rel => exact ⟨i + 1, by go_num, ⟨by omega⟩, HO4, HB4⟩
      case measure => simp [intOf]; omega
    · have hfull : Aside0 (l.take i = l) := ⟨List.take_of_length_le (by omega)⟩
      rw [hfull.out] at HO
      clear hfull
      generalize l.map recordF = recs at *
      obtain ⟨A3, c3, rfl⟩ := Kd.R_slice HO.out
      have hcap := Aside0.mk (Kd.R_reads' HO.out)
      go_wp2_with (go_at_call 28; refine (H28.out _ A3 c3 hcap.out.2.2 hcap.out.2.1).mono ?_; rintro e w2 ⟨v1, rfl, ho, hb⟩; obtain ⟨A5, c5, rfl⟩ := Kd.R_slice ho; have HO5 := Aside0.mk (Kd.R_lower ho HB.out.size); have HB5 := Aside0.mk (below_step HB.out hb); clear ho hb)
      go_ret
      exact ⟨_, rfl, HO5.out, HB5.out⟩
end Go.Proofs.Ytnjidfgjldkkcaa.Q
/- disk.play, disk.Held, disk.Play, walked. -/
namespace Go.Proofs.Ytnjidfgjldkkcaa.Q
open Go.RowKit Go.Proofs.YtnjidfgjldkkcaaW.PrintWords Go.Proofs.YtnjidfgjldkkcaaW.PrintLast Go.Proofs.YtnjidfgjldkkcaaW.PrintMore
def dskPlay : List S72 → List Int → Nat → List Int × List Int × Nat
  | [], d, s => ([], d, s)
  | m :: t, d, s => ((dskStep d s m).1 :: (dskPlay t (dskStep d s m).2.1 (dskStep d s m).2.2).1, (dskPlay t (dskStep d s m).2.1 (dskStep d s m).2.2).2)
theorem dskStep_len (d : List Int) (s : Nat) (m : S72) (h : d.length ≤ 1200) : (dskStep d s m).2.1.length ≤ 1200 := by
  unfold dskStep
  repeat' split
  all_goals first | exact h | (simp only [List.length_append, List.length_take]; omega)
theorem dsk_next {l : List S72} {d : List Int} {s i : Nat} {cs : List Int} {R : List Int × List Int × Nat} (h : (cs ++ (dskPlay (l.drop i) d s).1, (dskPlay (l.drop i) d s).2) = R) (hi : i < l.length) :
    ((cs ++ [(dskStep d s (rd_T72 l i)).1]) ++ (dskPlay (l.drop (i + 1)) (dskStep d s (rd_T72 l i)).2.1 (dskStep d s (rd_T72 l i)).2.2).1, (dskPlay (l.drop (i + 1)) (dskStep d s (rd_T72 l i)).2.1 (dskStep d s (rd_T72 l i)).2.2).2) = R := by
  have e : rd_T72 l (i : Int) = l[i] := by
    unfold rd_T72
    rw [Int.toNat_natCast, List.getD_eq_getElem?_getD, List.getElem?_eq_getElem hi]; rfl
  rw [← h, List.drop_eq_getElem_cons hi, e]
  simp only [dskPlay, List.append_assoc, List.singleton_append]
set_option maxRecDepth 100000 in
set_option maxHeartbeats 8000000 in
theorem play_big (A : Option Addr) (c : Nat) (l : List S72) (w : World) (hl : 100 < l.length) :
    Calls Try.prog 57 #[.slice A l.length c] w fun e w' => e = .returned (.tuple #[.pointer none, .slice none 0 0, .int .i64 1]) ∧ w = w' := by
  go_enter Try.func57, Try.ntmps57
  go_wp2
  go_ret3
  exact ⟨rfl, rfl⟩
def PlayPost (w : World) (R : List Int × List Int × Nat) (e : Ending) (w' : World) : Prop :=
  ∃ g vc vd, e = .returned (.tuple #[.pointer (some ⟨g, 0, none⟩), vc, .int .i64 0]) ∧ DiskAt 90 [] w' w.heap.size g vd R.2.2 R.2.1 ∧ (Kd.int .i64).R 25 w' w.heap.size (fun _ => True) vc R.1 ∧ Below w.heap.size w w'
set_option maxRecDepth 100000 in
set_option maxHeartbeats 8000000 in
theorem play_walk (A : Option Addr) (c : Nat) (l : List S72) (w : World) (hr : Kd.C k72 w A l.length l) (hc : l.length ≤ c) (hb : ∀ m ∈ l, m.f1.length ≤ 140737488351232) (hl : l.length ≤ 100) :
    Calls Try.prog 57 #[.slice A l.length c] w (PlayPost w (dskPlay l [] 0)) := by
  have HR := Aside0.mk hr
  have HC := Aside0.mk hc
  have HBm := Aside0.mk hb
  clear hr hc hb
  have hd0 : Aside0 (DiskAt 90 [] (w.alloc (.cells #[.slice none 0 0, .int .i64 0] 90)) w.heap.size w.heap.size (.slice none 0 0) 0 []) := ⟨⟨by rw [heap_alloc_new]; rfl, Nat.le_refl _, Kd.R_nil _ _ _ _ _, Nat.le_refl _⟩⟩
  have hB0 : Aside0 (Below w.heap.size w (w.alloc (.cells #[.slice none 0 0, .int .i64 0] 90))) := ⟨below_alloc (Below.refl _ _) _⟩
  go_enter Try.func57, Try.ntmps57
  go_wp2
  go_loopw [6, 16] (fun v6 v16 wr => ∃ (i s : Nat) (cs d : List Int) (vd : Value), v16 = .int .i64 i ∧ Aside0 (i ≤ l.length) ∧ Aside0 ((cs ++ (dskPlay (l.drop i) d s).1, (dskPlay (l.drop i) d s).2) = dskPlay l [] 0) ∧ Aside0 (cs.length ≤ i) ∧ Aside0 (d.length ≤ 1200) ∧ Aside0 (DiskAt 90 [] wr w.heap.size w.heap.size vd s d) ∧ Aside0 ((Kd.int .i64).R 25 wr w.heap.size (fun _ => True) v6 cs) ∧ Aside0 (Below w.heap.size w wr)) (fun _ v16 _ => l.length - (intOf v16).toNat)
  case atStart => exact ⟨0, 0, [], [], _, rfl, ⟨Nat.zero_le _⟩, ⟨rfl⟩, ⟨Nat.le_refl _⟩, ⟨by simp⟩, hd0, ⟨Kd.R_nil _ _ _ _ _⟩, hB0⟩
  case round =>
    obtain ⟨i, s, cs, d, vd, rfl, hi, hs, hcl, hdl, HD, HO, HB⟩ := hrel
    have hil := hi.out
    by_cases hlt : i < l.length
    · have hst := Aside0.mk (dsk_next hs.out hlt)
      have hdl2 := Aside0.mk (dskStep_len d s (rd_T72 l i) hdl.out)
      obtain ⟨ad, A1, c1, rfl, x0, x1, x2, l1, g1⟩ := at_T72 (Kd.C_below HR.out HB.out) (i : Int) (by omega) (by omega)
      rw [Int.toNat_natCast] at x0 x1 x2
      obtain ⟨m, hm⟩ : ∃ m, m = rd_T72 l (i : Int) := ⟨_, rfl⟩
      rw [← hm] at hst hdl2 x0 x1 x2 l1 g1
      have hmb : Aside0 (m.f1.length ≤ 140737488351232) := ⟨HBm.out _ (by rw [hm]; unfold rd_T72; rw [Int.toNat_natCast, List.getD_eq_getElem?_getD, List.getElem?_eq_getElem hlt]; exact List.getElem_mem _)⟩
      have hcall : Aside0 (∀ W, Below wr.heap.size wr W → Calls Try.prog 75 #[.pointer (some ⟨w.heap.size, 0, none⟩), .agg #[.int .i64 m.f0, .slice A1 m.f1.length c1, .int .i64 m.f2]] W (DkPost 90 [] w.heap.size w.heap.size wr (.int .i64 (dskStep d s m).1) (dskStep d s m).2.2 (dskStep d s m).2.1)) := ⟨fun W hW => (disk_do 90 [] _ _ _ s d m A1 c1 W (HD.out.keep (ModT.of_below (T := []) (B := 0) hW) (by simp) (by simp)) (by omega) (Kd.C_below g1 hW) l1 (by have := hdl.out; omega) hmb.out).mono fun e w' ⟨v, h1, h2, h3⟩ => ⟨v, h1, h2, (ModT.of_below hW).trans h3⟩⟩
      obtain ⟨code, hcode⟩ : ∃ z, Aside0 (z = (dskStep d s m).1) := ⟨_, ⟨rfl⟩⟩
      rw [← hcode.out] at hcall hst
      clear hm l1 g1
      go_wp2_with (first | (go_at_call 75; refine (hcall.out _ (by repeat (first | exact Below.refl _ _ | refine below_set ?_ (Nat.le_refl _) | apply below_alloc))).mono ?_; rintro e w3 ⟨v', rfl, hd, hm⟩; have HD3 := Aside0.mk hd; have HO3 := Aside0.mk (hm.R HO.out (by intro q hq; simp [Kd.int, Kd.scalar] at hq; subst hq; simp)); have HB3 := Aside0.mk (hm.below HB.out HB.out.size); clear hd hm) | ((with_reducible refine gate_builtin (b := .append) (xs := #[.tmp 20, .tmp 24]) rfl ?_); at_builtin; refine Kd.R_append (Kd.int .i64) (w0 := w) w.heap.size rfl (.tmp 20) (.tmp 24) 49 25 (.int .i64 0) 8 rfl Try.underlying49 info25 rfl (by decide) (by omega) u6 cs code [.int .i64 code] (fun _ => True) (fun _ => False) rfl rfl rfl (fun _ h => h.elim) (fun _ _ => trivial) HO3.out HB3.out (below_size HB3.out) (by have := hcl.out; omega) ?_; intro v4 w4 ho hb hg hat; obtain ⟨A4, c4, rfl⟩ := Kd.R_slice ho; rw [List.length_append, List.length_singleton] at ho hat; have HO4 := Aside0.mk ho; have HB4 := Aside0.mk hb; have HD4 := Aside0.mk (HD3.out.keep (ModT.grown (T := [25]) hg HO3.out (by simp) (Nat.le_refl _)) (by simp) (by simp)); clear ho hb hg hat))
      go_roundw
      case rel => exact ⟨i + 1, _, cs ++ [code], _, v', by simp, ⟨hlt⟩, hst, ⟨by have := hcl.out; rw [List.length_append, List.length_singleton]; omega⟩, hdl2, HD4, HO4, HB4⟩
      case measure => simp [intOf]; omega
    · have he : Aside0 ((cs, d, s) = dskPlay l [] 0) := ⟨by have := hs.out; rw [List.drop_of_length_le (by omega)] at this; simpa [dskPlay] using this⟩
      go_wp2
      go_ret3
      rw [← he.out]
      exact ⟨_, _, vd, rfl, HD.out, HO.out, HB.out⟩
theorem dskPlay_len : ∀ (l : List S72) (d : List Int) (s : Nat), d.length ≤ 1200 → (dskPlay l d s).2.1.length ≤ 1200 ∧ (dskPlay l d s).1.length = l.length
  | [], d, s, h => ⟨h, rfl⟩
  | m :: t, d, s, h => by
    have := dskPlay_len t _ (dskStep d s m).2.2 (dskStep_len d s m h)
    simp only [dskPlay, List.length_cons]
    exact ⟨this.1, by rw [this.2]⟩
/-- What disk.Held says: how many bytes, how many synced, the code. -/
def heldF (l : List S72) : Int × Int × Int := if 100 < l.length then (0, 0, 1) else (((dskPlay l [] 0).2.1.length : Int), ((dskPlay l [] 0).2.2 : Int), 0)
def disk_Held.f (l : List S72) : Option (Int × Int × Int) := if l.all (fun m => decide (m.f1.length ≤ 140737488351232)) = true then some (heldF l) else none
theorem moves_of {l : List S72} (h : l.all (fun m => decide (m.f1.length ≤ 140737488351232)) = true) : ∀ m ∈ l, m.f1.length ≤ 140737488351232 := fun m hm => by
  have := List.all_eq_true.1 h m hm
  simpa using this
set_option maxRecDepth 100000 in
set_option maxHeartbeats 8000000 in
theorem disk_Held.calls (A0 : Option Addr) (c0 : Nat) (l0 : List S72) (r1 r2 r3 : Int) (w : World) (hr0 : Kd.C k72 w A0 l0.length l0) (hc0 : l0.length ≤ c0) (h : disk_Held.f l0 = some (r1, r2, r3)) :
    Calls Try.prog 33 #[.slice A0 l0.length c0] w fun e w' => e = .returned (.tuple #[.int .i64 r1, .int .i64 r2, .int .i64 r3]) ∧ Below w.heap.size w w' := by
  unfold disk_Held.f at h
  by_cases ha : l0.all (fun m => decide (m.f1.length ≤ 140737488351232)) = true
  case neg => rw [if_neg ha] at h; cases h
  rw [if_pos ha] at h
  replace h := Option.some.inj h
  unfold heldF at h
  by_cases hl : 100 < l0.length
  · rw [if_pos hl] at h
    simp only [Prod.mk.injEq] at h
    obtain ⟨rfl, rfl, rfl⟩ := h
    have H := Aside0.mk (fun W => play_big A0 c0 l0 W hl)
    clear hr0 ha hl
    go_enter Try.func33, Try.ntmps33
    go_wp2_with (go_at_call 57; refine (H.out _).mono ?_; rintro e w1 ⟨rfl, rfl⟩)
    go_ret3
    exact ⟨rfl, Below.refl _ _⟩
  · rw [if_neg hl] at h
    simp only [Prod.mk.injEq] at h
    obtain ⟨rfl, rfl, rfl⟩ := h
    have H := Aside0.mk (play_walk A0 c0 l0 w hr0 hc0 (moves_of ha) (by omega))
    obtain ⟨R, hR⟩ : ∃ R, R = dskPlay l0 [] 0 := ⟨_, rfl⟩
    rw [← hR] at H ⊢
    obtain ⟨cs, d, s⟩ := R
    clear hR hr0 ha hl
    go_enter Try.func33, Try.ntmps33
    go_wp2_with (go_at_call 57; refine H.out.mono ?_; rintro e w1 ⟨g, vc, vd, rfl, hd, ho, hb⟩; obtain ⟨Ad, cd, rfl⟩ := Kd.R_slice hd.2.2.1; obtain ⟨x0, x1, _, _⟩ := hd.cells; have HB := Aside0.mk hb; clear hd ho hb)
    go_quiet (fail)
    go_wp2
    go_ret3
    exact ⟨rfl, pw_below_drewN HB.out _⟩
def playF (l : List S72) : List Int × List Int × Int := if 100 < l.length then ([], [], 1) else ((dskPlay l [] 0).1, (dskPlay l [] 0).2.1, 0)
def Play2 (w : World) (R : List Int × List Int × Int) (e : Ending) (w' : World) : Prop :=
  ∃ vc vd, e = .returned (.tuple #[vc, vd, .int .i64 R.2.2]) ∧ (Kd.int .i64).R 25 w' w.heap.size (fun _ => True) vc R.1 ∧ (Kd.int .u8).R 5 w' w.heap.size (fun _ => True) vd R.2.1 ∧ Below w.heap.size w w'
set_option maxRecDepth 100000 in
set_option maxHeartbeats 8000000 in
theorem disk_Play (A : Option Addr) (c : Nat) (l : List S72) (w : World) (hr : Kd.C k72 w A l.length l) (hc : l.length ≤ c) (hb : ∀ m ∈ l, m.f1.length ≤ 140737488351232) :
    Calls Try.prog 35 #[.slice A l.length c] w (Play2 w (playF l)) := by
  unfold playF
  by_cases hl : 100 < l.length
  · rw [if_pos hl]
    have H := Aside0.mk (fun W => play_big A c l W hl)
    clear hr hb hl
    go_enter Try.func35, Try.ntmps35
    go_wp2_with (go_at_call 57; refine (H.out _).mono ?_; rintro e w1 ⟨rfl, rfl⟩)
    go_ret3
    exact ⟨_, _, rfl, Kd.R_nil _ _ _ _ _, Kd.R_nil _ _ _ _ _, Below.refl _ _⟩
  · rw [if_neg hl]
    have H := Aside0.mk (play_walk A c l w hr hc hb (by omega))
    have hdl := (dskPlay_len l [] 0 (by simp)).1
    obtain ⟨R, hR⟩ : ∃ R, R = dskPlay l [] 0 := ⟨_, rfl⟩
    rw [← hR] at H hdl ⊢
    obtain ⟨cs, d, s⟩ := R
    have HL : Aside0 (d.length ≤ 1200) := ⟨hdl⟩
    clear hR hr hb hl hdl
    go_enter Try.func35, Try.ntmps35
    go_wp2_with (first | (go_at_call 57; refine H.out.mono ?_; rintro e w1 ⟨g, vc, vd, rfl, hd, ho, hb⟩; obtain ⟨Ad, cd, rfl⟩ := Kd.R_slice hd.2.2.1; obtain ⟨Ac, cc, rfl⟩ := Kd.R_slice ho; obtain ⟨x0, x1, _, _⟩ := hd.cells; have HB := Aside0.mk hb; have HD := Aside0.mk (Kd.R_reads' hd.2.2.1); have HO := Aside0.mk ho; clear hd ho hb) | (go_at_call 58; refine (slices_Clone_byte_byte.calls Ad cd d d _ HD.out.2.2 HD.out.2.1 (by unfold slices_Clone_byte_byte.f; rw [if_pos (by have := HL.out; omega)])).mono ?_; rintro e w2 ⟨v2, rfl, ho2, hb2⟩; obtain ⟨A2, c2, rfl⟩ := Kd.R_slice ho2; have HO2 := Aside0.mk (Kd.R_lower ho2 HB.out.size); have HO1 := Aside0.mk (Kd.R_below HO.out hb2); have HB2 := Aside0.mk (below_step HB.out hb2); clear ho2 hb2))
    go_ret3
    exact ⟨_, _, rfl, HO1.out, HO2.out, HB2.out⟩
end Go.Proofs.Ytnjidfgjldkkcaa.Q
/- bagnallref.DiskPlayed, walked to the same plain function as disk.play. -/
namespace Go.Proofs.Ytnjidfgjldkkcaa.Q
open Go.RowKit Go.Proofs.YtnjidfgjldkkcaaW.PrintWords Go.Proofs.YtnjidfgjldkkcaaW.PrintLast Go.Proofs.YtnjidfgjldkkcaaW.PrintMore
attribute [local go_sem] max2_int min2_int max_two min_two
theorem results_tmp4 {fn : Func} {t u v x : Tmp} (h : fn.results = #[.tmp t, .tmp u, .tmp v, .tmp x]) (tmps : Array Value) (P : Program) (w : World) :
    (results fn tmps).run P w = .ok (.tuple #[tmps.getD t undef, tmps.getD u undef, tmps.getD v undef, tmps.getD x undef]) w := by
  simp [results, h]
def Played (w : World) (R : List Int × List Int × List Int × Int) (e : Ending) (w' : World) : Prop :=
  ∃ v1 v2 v3, e = .returned (.tuple #[v1, v2, v3, .int .i64 R.2.2.2]) ∧ (Kd.int .i64).R 25 w' w.heap.size (fun _ => True) v1 R.1 ∧ (Kd.int .u8).R 5 w' w.heap.size (fun _ => True) v2 R.2.1 ∧ (Kd.int .u8).R 5 w' w.heap.size (fun _ => True) v3 R.2.2.1 ∧ Below w.heap.size w w'
def playedF (l : List S72) : List Int × List Int × List Int × Int := if 100 < l.length then ([], [], [], 1) else ((dskPlay l [] 0).1, (dskPlay l [] 0).2.1.take (dskPlay l [] 0).2.2, (dskPlay l [] 0).2.1.drop (dskPlay l [] 0).2.2, 0)
set_option maxRecDepth 100000 in
set_option maxHeartbeats 8000000 in
theorem ref_DiskPlayed (A : Option Addr) (c : Nat) (l : List S72) (w : World) (hr : Kd.C k72 w A l.length l) (hc : l.length ≤ c) (hb : ∀ m ∈ l, m.f1.length ≤ 140737488351232) :
    Calls Try.prog 34 #[.slice A l.length c] w (Played w (playedF l)) := by
  by_cases hl : 100 < l.length
  · have e : Aside0 (playedF l = ([], [], [], 1)) := ⟨by unfold playedF; rw [if_pos hl]⟩
    go_enter Try.func34, Try.ntmps34
    go_wp2
    refine bodyPost_ret (results_tmp4 rfl _ _ _) rfl ?_
    rw [e.out]
    exact ⟨_, _, _, rfl, Kd.R_nil _ _ _ _ _, Kd.R_nil _ _ _ _ _, Kd.R_nil _ _ _ _ _, Below.refl _ _⟩
  have e : Aside0 (playedF l = ((dskPlay l [] 0).1, (dskPlay l [] 0).2.1.take (dskPlay l [] 0).2.2, (dskPlay l [] 0).2.1.drop (dskPlay l [] 0).2.2, 0)) := ⟨by unfold playedF; rw [if_neg hl]⟩
  have HR := Aside0.mk hr
  have HC := Aside0.mk hc
  have HBm := Aside0.mk hb
  clear hr hc hb
  go_enter Try.func34, Try.ntmps34
  go_wp2
  go_loopw [6, 7, 8, 18] (fun v6 v7 v8 v18 wr => ∃ (i : Nat) (cs sa op : List Int), v18 = .int .i64 i ∧ Aside0 (i ≤ l.length) ∧ Aside0 ((cs ++ (dskPlay (l.drop i) (sa ++ op) sa.length).1, (dskPlay (l.drop i) (sa ++ op) sa.length).2) = dskPlay l [] 0) ∧ Aside0 (cs.length ≤ i) ∧ Aside0 ((sa ++ op).length ≤ 1200) ∧ Aside0 ((Kd.int .u8).R 5 wr w.heap.size (fun _ => True) v7 sa) ∧ Aside0 ((Kd.int .u8).R 5 wr w.heap.size (fun _ => True) v8 op) ∧ Aside0 ((Kd.int .i64).R 25 wr w.heap.size (fun _ => True) v6 cs) ∧ Aside0 (Below w.heap.size w wr)) (fun _ _ _ v18 _ => l.length - (intOf v18).toNat)
  case atStart => exact ⟨0, [], [], [], rfl, ⟨Nat.zero_le _⟩, ⟨rfl⟩, ⟨Nat.le_refl _⟩, ⟨by simp⟩, ⟨Kd.R_nil _ _ _ _ _⟩, ⟨Kd.R_nil _ _ _ _ _⟩, ⟨Kd.R_nil _ _ _ _ _⟩, ⟨Below.refl _ _⟩⟩
  case round =>
    obtain ⟨i, cs, sa, op, rfl, hi, hs, hcl, hdl, HS, HP, HO, HB⟩ := hrel
    have hil := hi.out
    by_cases hlt : i < l.length
    · have hst := Aside0.mk (dsk_next hs.out hlt)
      have hdl2 := Aside0.mk (dskStep_len (sa ++ op) sa.length (rd_T72 l i) hdl.out)
      obtain ⟨ad, A1, c1, rfl, x0, x1, x2, l1, g1⟩ := at_T72 (Kd.C_below HR.out HB.out) (i : Int) (by omega) (by omega)
      rw [Int.toNat_natCast] at x0 x1 x2
      obtain ⟨m, hm⟩ : ∃ m, m = rd_T72 l (i : Int) := ⟨_, rfl⟩
      rw [← hm] at hst hdl2 x0 x1 x2 l1 g1
      have hmb : Aside0 (m.f1.length ≤ 140737488351232) := ⟨HBm.out _ (by rw [hm]; unfold rd_T72; rw [Int.toNat_natCast, List.getD_eq_getElem?_getD, List.getElem?_eq_getElem hlt]; exact List.getElem_mem _)⟩
      have G1 := Aside0.mk g1
      obtain ⟨A7, c7, rfl⟩ := Kd.R_slice HS.out
      obtain ⟨A8, c8, rfl⟩ := Kd.R_slice HP.out
      clear hm g1
      go_upto_block 2 with (fail)
      go_cut [7, 8, 11] (fun v7 v8 v11 wc => ∃ (sa' op' : List Int) (code : Int), v11 = .int .i64 code ∧ Aside0 (dskStep (sa ++ op) sa.length m = (code, sa' ++ op', sa'.length)) ∧ Aside0 ((Kd.int .u8).R 5 wc w.heap.size (fun _ => True) v7 sa') ∧ Aside0 ((Kd.int .u8).R 5 wc w.heap.size (fun _ => True) v8 op') ∧ Aside0 (Below wr.heap.size wr wc))
      case first =>
        obtain ⟨W0, hW0⟩ : ∃ W, W = wr.alloc (.cells #[.int .i64 m.f0, .slice A1 m.f1.length c1, .int .i64 m.f2] 72) := ⟨_, rfl⟩
        rw [← hW0]
        have BW0 : Aside0 (Below wr.heap.size wr W0) := ⟨hW0 ▸ below_alloc (Below.refl _ _) _⟩
        have y0 : W0.cell? ⟨wr.heap.size, 0, none⟩ = some (.int .i64 m.f0) := by rw [hW0, blk_cell (blk_new wr _)]; rfl
        have y1 : W0.cell? ⟨wr.heap.size, 1, none⟩ = some (.slice A1 m.f1.length c1) := by rw [hW0, blk_cell (blk_new wr _)]; rfl
        have y2 : W0.cell? ⟨wr.heap.size, 2, none⟩ = some (.int .i64 m.f2) := by rw [hW0, blk_cell (blk_new wr _)]; rfl
        have HS0 := Aside0.mk (Kd.R_below HS.out BW0.out)
        have HP0 := Aside0.mk (Kd.R_below HP.out BW0.out)
        have CS : Aside0 (∀ W, Below W0.heap.size W0 W → (Kd.int .u8).C W A7 sa.length sa) := ⟨fun W hW => Kd.C_below (Kd.R_reads' HS0.out).2.2 hW⟩
        have CP : Aside0 (∀ W, Below W0.heap.size W0 W → (Kd.int .u8).C W A8 op.length op) := ⟨fun W hW => Kd.C_below (Kd.R_reads' HP0.out).2.2 hW⟩
        have CM : Aside0 (∀ W, Below W0.heap.size W0 W → (Kd.int .u8).C W A1 m.f1.length m.f1) := ⟨fun W hW => Kd.C_below (Kd.C_below G1.out BW0.out) hW⟩
        have hll : sa.length + op.length ≤ 1200 := by have := hdl.out; rw [List.length_append] at this; exact this
        have hmb' := hmb.out
        have hww : Aside0 (w.heap.size ≤ W0.heap.size) := ⟨Nat.le_trans HB.out.size BW0.out.size⟩
        clear hW0
        obtain ⟨k, b, n⟩ := m
        simp only at y0 y1 y2 CM hmb' ⊢
        by_cases k1 : k = 1
        · subst k1
          by_cases hbig : 1200 < sa.length + op.length + b.length
          · have hr : Aside0 (dskStep (sa ++ op) sa.length ⟨1, b, n⟩ = (10, sa ++ op, sa.length)) := ⟨by unfold dskStep; rw [if_pos rfl, if_pos (by rw [List.length_append]; exact hbig)]⟩
            have hbig' : (1200 : Int) < (sa.length : Int) + (op.length : Int) + (b.length : Int) := by omega
            go_wp2
            go_meet
            case rel => exact ⟨sa, op, 10, rfl, hr, HS0, HP0, BW0⟩
          · have hr : Aside0 (dskStep (sa ++ op) sa.length ⟨1, b, n⟩ = (0, sa ++ (op ++ b), sa.length)) := ⟨by unfold dskStep; rw [if_pos rfl, if_neg (by rw [List.length_append]; exact hbig), List.append_assoc]⟩
            have hbig' : (sa.length : Int) + (op.length : Int) + (b.length : Int) ≤ 1200 := by omega
            go_upto_region 13 with (fail)
            all_goals go_region_law (first | (refine Kd.R_append_rows_step (Kd.int .u8) (w0 := W0) W0.heap.size (by simp [Region.wanted]) (.const (.slice none 0 0)) (.tmp 42) 36 5 (.int .u8 0) 1 rfl Try.underlying36 info5 rfl (by decide) (by omega) (.slice none 0 0) [] op _ _ _ (fun _ => True) (fun _ => False) rfl rfl (Kd.R_nil _ _ _ _ _) (CP.out _ (by repeat (first | exact Below.refl _ _ | exact HB51.out | apply below_drew | apply pw_below_drewN))) (fun x cs h => h) (fun _ h => h.elim) (fun _ _ => trivial) (by repeat (first | exact Below.refl _ _ | exact HB51.out | apply below_drew | apply pw_below_drewN)) (below_size (by repeat (first | exact Below.refl _ _ | exact HB51.out | apply below_drew | apply pw_below_drewN))) (by first | omega | (simp only [List.length_nil]; omega)) ?_; intro v1 w1 ho hb hg hat; rw [List.nil_append] at ho; obtain ⟨A51, c51, rfl⟩ := Kd.R_slice ho; have HO51 := Aside0.mk ho; have HB51 := Aside0.mk hb; have y10 := (HB51.out.cell (World.block_lt_of_cell? W0 _ y0)).trans y0; have y11 := (HB51.out.cell (World.block_lt_of_cell? W0 _ y1)).trans y1; have y12 := (HB51.out.cell (World.block_lt_of_cell? W0 _ y2)).trans y2; clear ho hb hg hat) | (refine Kd.R_append_rows_step (Kd.int .u8) (w0 := W0) W0.heap.size (by simp [Region.wanted]) (.tmp 43) (.tmp 45) 36 5 (.int .u8 0) 1 rfl Try.underlying36 info5 rfl (by decide) (by omega) (.slice A51 op.length c51) op b _ _ _ (fun _ => True) (fun _ => False) rfl rfl HO51.out (CM.out _ (by repeat (first | exact Below.refl _ _ | exact HB51.out | apply below_drew | apply pw_below_drewN))) (fun x cs h => h) (fun _ h => h.elim) (fun _ _ => trivial) (by repeat (first | exact Below.refl _ _ | exact HB51.out | apply below_drew | apply pw_below_drewN)) (below_size (by repeat (first | exact Below.refl _ _ | exact HB51.out | apply below_drew | apply pw_below_drewN))) (by first | omega | (simp only [List.length_nil]; omega)) ?_; intro v2 w2 ho hb hg hat; obtain ⟨A52, c52, rfl⟩ := Kd.R_slice ho; rw [List.length_append] at ho; have HO52 := Aside0.mk ho; have HB52 := Aside0.mk hb; clear ho hb hg hat))
            all_goals
              go_wp2
              go_meet
              case rel => exact ⟨sa, op ++ b, 0, rfl, hr, ⟨Kd.R_below HS0.out HB52.out⟩, ⟨Kd.R_lower HO52.out hww.out⟩, ⟨below_step BW0.out HB52.out⟩⟩
        by_cases k2 : k = 2
        · subst k2
          have hr : Aside0 (dskStep (sa ++ op) sa.length ⟨2, b, n⟩ = (0, (sa ++ op) ++ [], (sa ++ op).length)) := ⟨by unfold dskStep; rw [if_neg k1, if_pos rfl, List.append_nil]⟩
          go_wp2_with (first | ((with_reducible refine gate_builtin (b := .append) (xs := #[.const (.slice none 0 0), .tmp 51]) rfl ?_); at_builtin; refine Kd.R_append_rows (Kd.int .u8) (w0 := W0) W0.heap.size rfl (.const (.slice none 0 0)) (.tmp 51) 36 5 (.int .u8 0) 1 rfl Try.underlying36 info5 rfl (by decide) (by omega) (.slice none 0 0) [] sa _ _ _ (fun _ => True) (fun _ => False) rfl rfl (Kd.R_nil _ _ _ _ _) (CS.out _ (by repeat (first | exact Below.refl _ _ | exact HB51.out | apply below_drew | apply pw_below_drewN))) (fun x cs h => h) (fun _ h => h.elim) (fun _ _ => trivial) (by repeat (first | exact Below.refl _ _ | exact HB51.out | apply below_drew | apply pw_below_drewN)) (below_size (by repeat (first | exact Below.refl _ _ | exact HB51.out | apply below_drew | apply pw_below_drewN))) (by first | omega | (simp only [List.length_nil]; omega)) ?_; intro v1 w1 ho hb hg hat; rw [List.nil_append] at ho; obtain ⟨A51, c51, rfl⟩ := Kd.R_slice ho; have HO51 := Aside0.mk ho; have HB51 := Aside0.mk hb; clear ho hb hg hat) | ((with_reducible refine gate_builtin (b := .append) (xs := #[.tmp 52, .tmp 53]) rfl ?_); at_builtin; refine Kd.R_append_rows (Kd.int .u8) (w0 := W0) W0.heap.size rfl (.tmp 52) (.tmp 53) 36 5 (.int .u8 0) 1 rfl Try.underlying36 info5 rfl (by decide) (by omega) (.slice A51 sa.length c51) sa op _ _ _ (fun _ => True) (fun _ => False) rfl rfl HO51.out (CP.out _ (by repeat (first | exact Below.refl _ _ | exact HB51.out | apply below_drew | apply pw_below_drewN))) (fun x cs h => h) (fun _ h => h.elim) (fun _ _ => trivial) (by repeat (first | exact Below.refl _ _ | exact HB51.out | apply below_drew | apply pw_below_drewN)) (below_size (by repeat (first | exact Below.refl _ _ | exact HB51.out | apply below_drew | apply pw_below_drewN))) (by first | omega | (simp only [List.length_nil]; omega)) ?_; intro v2 w2 ho hb hg hat; obtain ⟨A52, c52, rfl⟩ := Kd.R_slice ho; rw [List.length_append] at ho; have HO52 := Aside0.mk ho; have HB52 := Aside0.mk hb; clear ho hb hg hat))
          go_meet
          case rel => exact ⟨sa ++ op, [], 0, rfl, hr, ⟨Kd.R_lower HO52.out hww.out⟩, ⟨Kd.R_nil _ _ _ _ _⟩, ⟨below_step BW0.out HB52.out⟩⟩
        by_cases k3 : k = 3
        · subst k3
          have hsl : ((sa ++ op).length : Int) = (sa.length : Int) + (op.length : Int) := by rw [List.length_append]; omega
          by_cases n0 : n < 0
          · have hr : Aside0 (dskStep (sa ++ op) sa.length ⟨3, b, n⟩ = (2, sa ++ op, sa.length)) := ⟨by unfold dskStep; rw [if_neg k1, if_neg k2, if_pos rfl, if_pos n0]⟩
            clear hsl
            go_wp2_with (first | ((with_reducible refine gate_builtin (b := .append) (xs := #[.const (.slice none 0 0), .tmp 59]) rfl ?_); at_builtin; refine Kd.R_append_rows (Kd.int .u8) (w0 := W0) W0.heap.size rfl (.const (.slice none 0 0)) (.tmp 59) 36 5 (.int .u8 0) 1 rfl Try.underlying36 info5 rfl (by decide) (by omega) (.slice none 0 0) [] sa _ _ _ (fun _ => True) (fun _ => False) rfl rfl (Kd.R_nil _ _ _ _ _) (CS.out _ (by repeat (first | exact Below.refl _ _ | exact HB51.out | apply below_drew | apply pw_below_drewN))) (fun x cs h => h) (fun _ h => h.elim) (fun _ _ => trivial) (by repeat (first | exact Below.refl _ _ | exact HB51.out | apply below_drew | apply pw_below_drewN)) (below_size (by repeat (first | exact Below.refl _ _ | exact HB51.out | apply below_drew | apply pw_below_drewN))) (by first | omega | (simp only [List.length_nil]; omega)) ?_; intro v1 w1 ho hb hg hat; rw [List.nil_append] at ho; obtain ⟨A51, c51, rfl⟩ := Kd.R_slice ho; have HO51 := Aside0.mk ho; have HB51 := Aside0.mk hb; clear ho hb hg hat) | ((with_reducible refine gate_builtin (b := .append) (xs := #[.tmp 60, .tmp 61]) rfl ?_); at_builtin; refine Kd.R_append_rows (Kd.int .u8) (w0 := W0) W0.heap.size rfl (.tmp 60) (.tmp 61) 36 5 (.int .u8 0) 1 rfl Try.underlying36 info5 rfl (by decide) (by omega) (.slice A51 sa.length c51) sa op _ _ _ (fun _ => True) (fun _ => False) rfl rfl HO51.out (CP.out _ (by repeat (first | exact Below.refl _ _ | exact HB51.out | apply below_drew | apply pw_below_drewN))) (fun x cs h => h) (fun _ h => h.elim) (fun _ _ => trivial) (by repeat (first | exact Below.refl _ _ | exact HB51.out | apply below_drew | apply pw_below_drewN)) (below_size (by repeat (first | exact Below.refl _ _ | exact HB51.out | apply below_drew | apply pw_below_drewN))) (by first | omega | (simp only [List.length_nil]; omega)) ?_; intro v2 w2 ho hb hg hat; obtain ⟨A52, c52, rfl⟩ := Kd.R_slice ho; rw [List.length_append] at ho; have HO52 := Aside0.mk ho; have HB52 := Aside0.mk hb; have y20 := (HB52.out.cell (World.block_lt_of_cell? W0 _ y0)).trans y0; have y22 := (HB52.out.cell (World.block_lt_of_cell? W0 _ y2)).trans y2; clear ho hb hg hat))
            go_meet
            case rel => exact ⟨sa, op, 2, rfl, hr, ⟨Kd.R_below HS0.out HB52.out⟩, ⟨Kd.R_below HP0.out HB52.out⟩, ⟨below_step BW0.out HB52.out⟩⟩
          by_cases n1 : (sa.length : Int) + (op.length : Int) < n
          · have hr : Aside0 (dskStep (sa ++ op) sa.length ⟨3, b, n⟩ = (2, sa ++ op, sa.length)) := ⟨by unfold dskStep; rw [if_neg k1, if_neg k2, if_pos rfl, if_neg n0, if_pos (by rw [hsl]; exact n1)]⟩
            clear hsl
            go_wp2_with (first | ((with_reducible refine gate_builtin (b := .append) (xs := #[.const (.slice none 0 0), .tmp 59]) rfl ?_); at_builtin; refine Kd.R_append_rows (Kd.int .u8) (w0 := W0) W0.heap.size rfl (.const (.slice none 0 0)) (.tmp 59) 36 5 (.int .u8 0) 1 rfl Try.underlying36 info5 rfl (by decide) (by omega) (.slice none 0 0) [] sa _ _ _ (fun _ => True) (fun _ => False) rfl rfl (Kd.R_nil _ _ _ _ _) (CS.out _ (by repeat (first | exact Below.refl _ _ | exact HB51.out | apply below_drew | apply pw_below_drewN))) (fun x cs h => h) (fun _ h => h.elim) (fun _ _ => trivial) (by repeat (first | exact Below.refl _ _ | exact HB51.out | apply below_drew | apply pw_below_drewN)) (below_size (by repeat (first | exact Below.refl _ _ | exact HB51.out | apply below_drew | apply pw_below_drewN))) (by first | omega | (simp only [List.length_nil]; omega)) ?_; intro v1 w1 ho hb hg hat; rw [List.nil_append] at ho; obtain ⟨A51, c51, rfl⟩ := Kd.R_slice ho; have HO51 := Aside0.mk ho; have HB51 := Aside0.mk hb; clear ho hb hg hat) | ((with_reducible refine gate_builtin (b := .append) (xs := #[.tmp 60, .tmp 61]) rfl ?_); at_builtin; refine Kd.R_append_rows (Kd.int .u8) (w0 := W0) W0.heap.size rfl (.tmp 60) (.tmp 61) 36 5 (.int .u8 0) 1 rfl Try.underlying36 info5 rfl (by decide) (by omega) (.slice A51 sa.length c51) sa op _ _ _ (fun _ => True) (fun _ => False) rfl rfl HO51.out (CP.out _ (by repeat (first | exact Below.refl _ _ | exact HB51.out | apply below_drew | apply pw_below_drewN))) (fun x cs h => h) (fun _ h => h.elim) (fun _ _ => trivial) (by repeat (first | exact Below.refl _ _ | exact HB51.out | apply below_drew | apply pw_below_drewN)) (below_size (by repeat (first | exact Below.refl _ _ | exact HB51.out | apply below_drew | apply pw_below_drewN))) (by first | omega | (simp only [List.length_nil]; omega)) ?_; intro v2 w2 ho hb hg hat; obtain ⟨A52, c52, rfl⟩ := Kd.R_slice ho; rw [List.length_append] at ho; have HO52 := Aside0.mk ho; have HB52 := Aside0.mk hb; have y20 := (HB52.out.cell (World.block_lt_of_cell? W0 _ y0)).trans y0; have y22 := (HB52.out.cell (World.block_lt_of_cell? W0 _ y2)).trans y2; clear ho hb hg hat))
            go_meet
            case rel => exact ⟨sa, op, 2, rfl, hr, ⟨Kd.R_below HS0.out HB52.out⟩, ⟨Kd.R_below HP0.out HB52.out⟩, ⟨below_step BW0.out HB52.out⟩⟩
          obtain ⟨j, rfl⟩ : ∃ j : Nat, n = j := ⟨n.toNat, by omega⟩
          have hj : j ≤ sa.length + op.length := by omega
          have hr : Aside0 (dskStep (sa ++ op) sa.length ⟨3, b, (j : Int)⟩ = (0, (sa ++ op).take j ++ [], ((sa ++ op).take j).length)) := ⟨by unfold dskStep; rw [if_neg k1, if_neg k2, if_pos rfl, if_neg n0, if_neg (by rw [hsl]; exact n1), Int.toNat_natCast, List.append_nil, List.length_take, List.length_append, Nat.min_eq_left hj]⟩
          have htl : Aside0 (((sa ++ op).take j).length = j) := ⟨by rw [List.length_take, List.length_append, Nat.min_eq_left hj]⟩
          clear hsl
          go_wp2_with (first | ((with_reducible refine gate_builtin (b := .append) (xs := #[.const (.slice none 0 0), .tmp 59]) rfl ?_); at_builtin; refine Kd.R_append_rows (Kd.int .u8) (w0 := W0) W0.heap.size rfl (.const (.slice none 0 0)) (.tmp 59) 36 5 (.int .u8 0) 1 rfl Try.underlying36 info5 rfl (by decide) (by omega) (.slice none 0 0) [] sa _ _ _ (fun _ => True) (fun _ => False) rfl rfl (Kd.R_nil _ _ _ _ _) (CS.out _ (by repeat (first | exact Below.refl _ _ | exact HB51.out | apply below_drew | apply pw_below_drewN))) (fun x cs h => h) (fun _ h => h.elim) (fun _ _ => trivial) (by repeat (first | exact Below.refl _ _ | exact HB51.out | apply below_drew | apply pw_below_drewN)) (below_size (by repeat (first | exact Below.refl _ _ | exact HB51.out | apply below_drew | apply pw_below_drewN))) (by first | omega | (simp only [List.length_nil]; omega)) ?_; intro v1 w1 ho hb hg hat; rw [List.nil_append] at ho; obtain ⟨A51, c51, rfl⟩ := Kd.R_slice ho; have HO51 := Aside0.mk ho; have HB51 := Aside0.mk hb; clear ho hb hg hat) | ((with_reducible refine gate_builtin (b := .append) (xs := #[.tmp 60, .tmp 61]) rfl ?_); at_builtin; refine Kd.R_append_rows (Kd.int .u8) (w0 := W0) W0.heap.size rfl (.tmp 60) (.tmp 61) 36 5 (.int .u8 0) 1 rfl Try.underlying36 info5 rfl (by decide) (by omega) (.slice A51 sa.length c51) sa op _ _ _ (fun _ => True) (fun _ => False) rfl rfl HO51.out (CP.out _ (by repeat (first | exact Below.refl _ _ | exact HB51.out | apply below_drew | apply pw_below_drewN))) (fun x cs h => h) (fun _ h => h.elim) (fun _ _ => trivial) (by repeat (first | exact Below.refl _ _ | exact HB51.out | apply below_drew | apply pw_below_drewN)) (below_size (by repeat (first | exact Below.refl _ _ | exact HB51.out | apply below_drew | apply pw_below_drewN))) (by first | omega | (simp only [List.length_nil]; omega)) ?_; intro v2 w2 ho hb hg hat; obtain ⟨A52, c52, rfl⟩ := Kd.R_slice ho; rw [List.length_append] at ho; have HO52 := Aside0.mk ho; have HB52 := Aside0.mk hb; have hcap := (Kd.R_reads' ho).2.1; have y20 := (HB52.out.cell (World.block_lt_of_cell? W0 _ y0)).trans y0; have y22 := (HB52.out.cell (World.block_lt_of_cell? W0 _ y2)).trans y2; clear ho hb hg hat))
          go_meet
          case rel => exact ⟨(sa ++ op).take j, [], 0, rfl, hr, ⟨Kd.R_lower (Kd.R_take HO52.out (by rw [List.length_append]; exact hj)) hww.out⟩, ⟨Kd.R_nil _ _ _ _ _⟩, ⟨below_step BW0.out HB52.out⟩⟩
        by_cases k4 : k = 4
        · subst k4
          by_cases n0 : n < 0
          · have hr : Aside0 (dskStep (sa ++ op) sa.length ⟨4, b, n⟩ = (2, sa ++ op, sa.length)) := ⟨by unfold dskStep; rw [if_neg k1, if_neg k2, if_neg k3, if_pos rfl, if_pos n0]⟩
            go_wp2
            go_meet
            case rel => exact ⟨sa, op, 2, rfl, hr, HS0, HP0, BW0⟩
          obtain ⟨j, rfl⟩ : ∃ j : Nat, n = j := ⟨n.toNat, by omega⟩
          by_cases n1 : op.length < j
          · have hr : Aside0 (dskStep (sa ++ op) sa.length ⟨4, b, (j : Int)⟩ = (0, (sa ++ op) ++ [], (sa ++ op).length)) := ⟨by
              have e : fallN sa.length j (sa ++ op).length = (sa ++ op).length := by unfold fallN; rw [List.length_append]; omega
              unfold dskStep
              rw [if_neg k1, if_neg k2, if_neg k3, if_pos rfl, if_neg n0, Int.toNat_natCast, e, List.take_length, List.append_nil]⟩
            have n1' : (op.length : Int) < (j : Int) := by omega
            have hcap8 := (Kd.R_reads' HP0.out).2.1
            go_upto_region 26 with (fail)
            all_goals go_region_law (first | (refine Kd.R_append_rows_step (Kd.int .u8) (w0 := W0) W0.heap.size (by simp [Region.wanted]) (.const (.slice none 0 0)) (.tmp 90) 36 5 (.int .u8 0) 1 rfl Try.underlying36 info5 rfl (by decide) (by omega) (.slice none 0 0) [] sa _ _ _ (fun _ => True) (fun _ => False) rfl rfl (Kd.R_nil _ _ _ _ _) (CS.out _ (by repeat (first | exact Below.refl _ _ | exact HB51.out | apply below_drew | apply pw_below_drewN))) (fun x cs h => h) (fun _ h => h.elim) (fun _ _ => trivial) (by repeat (first | exact Below.refl _ _ | exact HB51.out | apply below_drew | apply pw_below_drewN)) (below_size (by repeat (first | exact Below.refl _ _ | exact HB51.out | apply below_drew | apply pw_below_drewN))) (by first | omega | (simp only [List.length_nil]; omega)) ?_; intro v1 w1 ho hb hg hat; rw [List.nil_append] at ho; obtain ⟨A51, c51, rfl⟩ := Kd.R_slice ho; have HO51 := Aside0.mk ho; have HB51 := Aside0.mk hb; have y10 := (HB51.out.cell (World.block_lt_of_cell? W0 _ y0)).trans y0; have y11 := (HB51.out.cell (World.block_lt_of_cell? W0 _ y1)).trans y1; have y12 := (HB51.out.cell (World.block_lt_of_cell? W0 _ y2)).trans y2; clear ho hb hg hat) | (refine Kd.R_append_rows_step (Kd.int .u8) (w0 := W0) W0.heap.size (by simp [Region.wanted]) (.tmp 91) (.tmp 98) 36 5 (.int .u8 0) 1 rfl Try.underlying36 info5 rfl (by decide) (by omega) (.slice A51 sa.length c51) sa op _ _ _ (fun _ => True) (fun _ => False) rfl rfl HO51.out (CP.out _ (by repeat (first | exact Below.refl _ _ | exact HB51.out | apply below_drew | apply pw_below_drewN))) (fun x cs h => h) (fun _ h => h.elim) (fun _ _ => trivial) (by repeat (first | exact Below.refl _ _ | exact HB51.out | apply below_drew | apply pw_below_drewN)) (below_size (by repeat (first | exact Below.refl _ _ | exact HB51.out | apply below_drew | apply pw_below_drewN))) (by first | omega | (simp only [List.length_nil]; omega)) ?_; intro v2 w2 ho hb hg hat; obtain ⟨A52, c52, rfl⟩ := Kd.R_slice ho; rw [List.length_append] at ho; have HO52 := Aside0.mk ho; have HB52 := Aside0.mk hb; clear ho hb hg hat))
            all_goals
              go_wp2
              go_meet
              case rel => exact ⟨sa ++ op, [], 0, rfl, hr, ⟨Kd.R_lower HO52.out hww.out⟩, ⟨Kd.R_nil _ _ _ _ _⟩, ⟨below_step BW0.out HB52.out⟩⟩
          · have hr : Aside0 (dskStep (sa ++ op) sa.length ⟨4, b, (j : Int)⟩ = (0, (sa ++ op.take j) ++ [], (sa ++ op.take j).length)) := ⟨by
              have e : fallN sa.length j (sa ++ op).length = sa.length + j := by unfold fallN; rw [List.length_append]; omega
              unfold dskStep
              have e2 : (sa ++ op).take (sa.length + j) = sa ++ op.take j := by rw [List.take_append, List.take_of_length_le (by omega), Nat.add_sub_cancel_left]
              have e3 : (sa ++ op.take j).length = sa.length + j := by rw [List.length_append, List.length_take]; omega
              rw [if_neg k1, if_neg k2, if_neg k3, if_pos rfl, if_neg n0, Int.toNat_natCast, e, e2, e3, List.append_nil]⟩
            have n1' : (j : Int) ≤ (op.length : Int) := by omega
            have hcap8 := (Kd.R_reads' HP0.out).2.1
            have hjc : j ≤ c8 := by omega
            obtain ⟨oj, hoj⟩ : ∃ z, Aside0 (z = op.take j) := ⟨_, ⟨rfl⟩⟩
            rw [← hoj.out] at hr
            have htl : Aside0 (oj.length = j) := ⟨by rw [hoj.out, List.length_take]; omega⟩
            have CJ : Aside0 (∀ W, Below W0.heap.size W0 W → (Kd.int .u8).C W A8 j oj) := ⟨fun W hW => by have := Kd.C_take (CP.out W hW) (show j ≤ op.length by omega); rw [← hoj.out, htl.out] at this; exact this⟩
            go_upto_region 26 with (fail)
            all_goals go_region_law (first | (refine Kd.R_append_rows_step (Kd.int .u8) (w0 := W0) W0.heap.size (by simp [Region.wanted]) (.const (.slice none 0 0)) (.tmp 90) 36 5 (.int .u8 0) 1 rfl Try.underlying36 info5 rfl (by decide) (by omega) (.slice none 0 0) [] sa _ _ _ (fun _ => True) (fun _ => False) rfl rfl (Kd.R_nil _ _ _ _ _) (CS.out _ (by repeat (first | exact Below.refl _ _ | exact HB51.out | apply below_drew | apply pw_below_drewN))) (fun x cs h => h) (fun _ h => h.elim) (fun _ _ => trivial) (by repeat (first | exact Below.refl _ _ | exact HB51.out | apply below_drew | apply pw_below_drewN)) (below_size (by repeat (first | exact Below.refl _ _ | exact HB51.out | apply below_drew | apply pw_below_drewN))) (by first | omega | (simp only [List.length_nil]; omega)) ?_; intro v1 w1 ho hb hg hat; rw [List.nil_append] at ho; obtain ⟨A51, c51, rfl⟩ := Kd.R_slice ho; have HO51 := Aside0.mk ho; have HB51 := Aside0.mk hb; have y10 := (HB51.out.cell (World.block_lt_of_cell? W0 _ y0)).trans y0; have y11 := (HB51.out.cell (World.block_lt_of_cell? W0 _ y1)).trans y1; have y12 := (HB51.out.cell (World.block_lt_of_cell? W0 _ y2)).trans y2; clear ho hb hg hat) | (refine Kd.R_append_rows_step (Kd.int .u8) (w0 := W0) W0.heap.size (by simp [Region.wanted]) (.tmp 91) (.tmp 98) 36 5 (.int .u8 0) 1 rfl Try.underlying36 info5 rfl (by decide) (by omega) (.slice A51 sa.length c51) sa oj _ _ _ (fun _ => True) (fun _ => False) rfl rfl HO51.out (CJ.out _ (by repeat (first | exact Below.refl _ _ | exact HB51.out | apply below_drew | apply pw_below_drewN))) (fun x cs h => h) (fun _ h => h.elim) (fun _ _ => trivial) (by repeat (first | exact Below.refl _ _ | exact HB51.out | apply below_drew | apply pw_below_drewN)) (below_size (by repeat (first | exact Below.refl _ _ | exact HB51.out | apply below_drew | apply pw_below_drewN))) (by first | omega | (simp only [List.length_nil]; omega)) ?_; intro v2 w2 ho hb hg hat; obtain ⟨A52, c52, rfl⟩ := Kd.R_slice ho; rw [List.length_append] at ho; have HO52 := Aside0.mk ho; have HB52 := Aside0.mk hb; clear ho hb hg hat))
            all_goals
              go_wp2
              go_meet
              case rel => exact ⟨sa ++ oj, [], 0, rfl, hr, ⟨Kd.R_lower HO52.out hww.out⟩, ⟨Kd.R_nil _ _ _ _ _⟩, ⟨below_step BW0.out HB52.out⟩⟩
        have hr : Aside0 (dskStep (sa ++ op) sa.length ⟨k, b, n⟩ = (3, sa ++ op, sa.length)) := ⟨by unfold dskStep; rw [if_neg k1, if_neg k2, if_neg k3, if_neg k4]⟩
        have q1 : (k == 1) = false := by simpa using k1
        have q2 : (k == 2) = false := by simpa using k2
        have q3 : (k == 3) = false := by simpa using k3
        have q4 : (k == 4) = false := by simpa using k4
        go_wp2
        go_meet
        case rel => exact ⟨sa, op, 3, rfl, hr, HS0, HP0, BW0⟩
      case rest =>
        obtain ⟨sa', op', code, rfl, hstep, H7, H8, HBc⟩ := hcut
        have hst' : Aside0 (((cs ++ [code]) ++ (dskPlay (l.drop (i + 1)) (sa' ++ op') sa'.length).1, (dskPlay (l.drop (i + 1)) (sa' ++ op') sa'.length).2) = dskPlay l [] 0) := ⟨by have := hst.out; rw [hstep.out] at this; exact this⟩
        have hdl3 : Aside0 ((sa' ++ op').length ≤ 1200) := ⟨by have := hdl2.out; rw [hstep.out] at this; exact this⟩
        have HOc := Aside0.mk (Kd.R_below HO.out HBc.out)
        have HBw := Aside0.mk (below_step HB.out HBc.out)
        clear hst hdl2 hstep
        go_wp2_with ((with_reducible refine gate_builtin (b := .append) (xs := #[.tmp 100, .tmp 102]) rfl ?_); at_builtin; refine Kd.R_append (Kd.int .i64) (w0 := w) w.heap.size rfl (.tmp 100) (.tmp 102) 49 25 (.int .i64 0) 8 rfl Try.underlying49 info25 rfl (by decide) (by omega) u6 cs code [.int .i64 code] (fun _ => True) (fun _ => False) rfl rfl rfl (fun _ h => h.elim) (fun _ _ => trivial) HOc.out HBw.out (below_size HBw.out) (by have := hcl.out; omega) ?_; intro v4 w4 ho hb hg hat; obtain ⟨A4, c4, rfl⟩ := Kd.R_slice ho; rw [List.length_append, List.length_singleton] at ho hat; have HM4 := Aside0.mk (ModT.grown (T := [25]) hg HOc.out (by simp) (Nat.le_refl _)); have HO4 := Aside0.mk ho; have HB4 := Aside0.mk hb; clear ho hb hg hat)
        go_roundw
        case rel => exact ⟨i + 1, cs ++ [code], sa', op', by simp, ⟨hlt⟩, hst', ⟨by have := hcl.out; rw [List.length_append, List.length_singleton]; omega⟩, hdl3, ⟨HM4.out.R H7.out (by intro q hq; simp [Kd.int, Kd.scalar] at hq; subst hq; simp)⟩, ⟨HM4.out.R H8.out (by intro q hq; simp [Kd.int, Kd.scalar] at hq; subst hq; simp)⟩, HO4, HB4⟩
        case measure => simp [intOf]; omega
    · have he : Aside0 ((cs, sa ++ op, sa.length) = dskPlay l [] 0) := ⟨by have := hs.out; rw [List.drop_of_length_le (by omega)] at this; simpa [dskPlay] using this⟩
      go_wp2
      refine bodyPost_ret (results_tmp4 rfl _ _ _) rfl ?_
      rw [e.out, ← he.out]
      refine ⟨_, _, _, rfl, HO.out, ?_, ?_, HB.out⟩
      · simp only [List.take_left']
        exact HS.out
      · simp only [List.drop_left']
        exact HP.out
end Go.Proofs.Ytnjidfgjldkkcaa.Q
/- bagnallref.StorePlayed, walked to the same plain function as store.Play. -/
namespace Go.Proofs.Ytnjidfgjldkkcaa.Q
open Go.RowKit Go.Proofs.YtnjidfgjldkkcaaW.PrintWords Go.Proofs.YtnjidfgjldkkcaaW.PrintLast Go.Proofs.YtnjidfgjldkkcaaW.PrintMore Go.Proofs.Ytnjidfgjldkkcaa.Plain Go.Proofs.Ytnjidfgjldkkcaa.Pure
/-- The last row of the key. -/
def lastR (key : ByteArray) : List S69 → List S69 → List S69
  | acc, [] => acc
  | acc, r :: t => if r.f0 = key then lastR key [r] t else lastR key acc t
theorem lastR_none (key : ByteArray) : ∀ (t acc : List S69), (∀ r ∈ t, r.f0 ≠ key) → lastR key acc t = acc
  | [], _, _ => rfl
  | r :: t, acc, h => by
    unfold lastR
    rw [if_neg (h r List.mem_cons_self)]
    exact lastR_none key t acc (fun x hx => h x (List.mem_cons_of_mem _ hx))
theorem lastR_get (key : ByteArray) : ∀ t : List S69, Asc t → getF key t = (if (lastR key [] t).length = 0 then 8 else 0, lastR key [] t)
  | [], _ => by unfold getF hasB seek lastR; rfl
  | r :: t, ha => by
    obtain ⟨h1, h2⟩ := List.pairwise_cons.1 ha
    by_cases hk : r.f0 = key
    · have hn : ∀ x ∈ t, x.f0 ≠ key := fun x hx e => by
        have := h1 x hx
        rw [e, ← hk, kl_irr] at this
        cases this
      unfold lastR
      rw [if_pos hk, lastR_none key t [r] hn]
      unfold getF hasB seek
      rw [if_pos hk]
      subst hk
      rfl
    · have := lastR_get key t h2
      have e : seek key (r :: t) = seek key t := by rw [seek, if_neg hk]
      have e2 : lastR key [] (r :: t) = lastR key [] t := by rw [lastR, if_neg hk]
      rw [e2, ← this]
      unfold getF hasB
      rw [e]
theorem crashCode_pos {d : List Int} {t cs : List S69} {n : Int} (h : ¬ n < 0) : crashCode d t cs n = sfaultF d t cs := by unfold crashCode; rw [if_neg h]
/-- Behind the switch of an act. -/
def PCut (w wr : World) (told : Value) (r : (Int × List S69) × List Int × List S69) (v5 v6 : Value) (wc : World) : Prop :=
  ∃ xv, wc.heap[wr.heap.size + 1]? = some (.cells #[.int .i64 r.1.1, xv] 62 (0, 0)) ∧ k69.R 69 wc w.heap.size (fun q => wr.heap.size ≤ q) xv r.1.2 ∧ Kd.V k69 69 wc 0 (fun q => some q ≠ told.ownBlock) v5 r.2.2 ∧ (Kd.int .u8).R 5 wc w.heap.size (fun _ => True) v6 r.2.1 ∧ Below wr.heap.size wr wc
theorem below_set_new {w W : World} {k j : Nat} (h : Below w.heap.size w W) (hk : w.heap.size ≤ k) (u : Value) : Below w.heap.size w (W.setCell ⟨k, j, none⟩ u) := below_set h hk
theorem PCut.code {w wr W : World} {told v5 v6 : Value} {d : List Int} {t : List S69} {c0 : Int} (hh : W.heap[wr.heap.size + 1]? = some (.cells #[.int .i64 c0, .slice none 0 0] 62 (0, 0))) (hB : Below wr.heap.size wr W) (hV : Kd.V k69 69 wr 0 (fun q => some q ≠ told.ownBlock) v5 t) (hR : (Kd.int .u8).R 5 wr w.heap.size (fun _ => True) v6 d) (c : Int) {r : (Int × List S69) × List Int × List S69} (hr : r = ((c, []), d, t)) :
    PCut w wr told r v5 v6 (W.setCell ⟨wr.heap.size + 1, 0, none⟩ (.int .i64 c)) := by
  subst hr
  have hB2 := below_set_new (k := wr.heap.size + 1) (j := 0) hB (by omega) (.int .i64 c)
  exact ⟨.slice none 0 0, by rw [heap_set1 hh]; rfl, Kd.R_nil _ _ _ _ _, Kd.V_below hV hB2, Kd.R_below hR hB2, hB2⟩
theorem PCut.same {w wr W : World} {told v5 v6 : Value} {d : List Int} {t : List S69} (hh : W.heap[wr.heap.size + 1]? = some (.cells #[.int .i64 0, .slice none 0 0] 62 (0, 0))) (hB : Below wr.heap.size wr W) (hV : Kd.V k69 69 W 0 (fun q => some q ≠ told.ownBlock) v5 t) (hR : (Kd.int .u8).R 5 W w.heap.size (fun _ => True) v6 d) {r : (Int × List S69) × List Int × List S69} (hr : r = ((0, []), d, t)) :
    PCut w wr told r v5 v6 W := by
  subst hr
  exact ⟨.slice none 0 0, hh, Kd.R_nil _ _ _ _ _, hV, hR, hB⟩
theorem PCut.rows {w wr W : World} {told v5 v6 v0 : Value} {d : List Int} {t : List S69} (hh : W.heap[wr.heap.size + 1]? = some (.cells #[.int .i64 0, v0] 62 (0, 0))) (hB : Below wr.heap.size wr W) (hV : Kd.V k69 69 wr 0 (fun q => some q ≠ told.ownBlock) v5 t) (hR : (Kd.int .u8).R 5 wr w.heap.size (fun _ => True) v6 d) {xv : Value} {rs : List S69} (hX : k69.R 69 W w.heap.size (fun q => wr.heap.size ≤ q) xv rs) {r : (Int × List S69) × List Int × List S69} (hr : r = ((0, rs), d, t)) :
    PCut w wr told r v5 v6 (W.setCell ⟨wr.heap.size + 1, 1, none⟩ xv) := by
  subst hr
  have hB2 := below_set_new (k := wr.heap.size + 1) (j := 1) hB (by omega) xv
  exact ⟨xv, by rw [heap_set1 hh]; rfl, Kd.R_set hX hh (by intro q hq; have : q = 69 := (by simpa [k69, Kd.iso, Kd.pair, Kd.string, Kd.scalar] using hq); omega) _ _, Kd.V_below hV hB2, Kd.R_below hR hB2, hB2⟩
set_option maxRecDepth 100000 in
set_option maxHeartbeats 16000000 in
theorem ref_StorePlayed (A : Option Addr) (c : Nat) (l : List S67) (w : World) (hr : Kd.C k67 w A l.length l) (hc : l.length ≤ c) (hk : ∀ a ∈ l, a.f2.size ≤ 140737488351232) :
    Calls Try.prog 39 #[.slice A l.length c] w (Splay w (splayF l)) := by
  unfold splayF
  by_cases hl : 100 < l.length
  · rw [if_pos hl]
    clear hr hk
    go_enter Try.func39, Try.ntmps39
    go_wp2
    go_ret3
    exact ⟨_, _, rfl, Kd.R_nil _ _ _ _ _, Kd.R_nil _ _ _ _ _, Below.refl _ _⟩
  rw [if_neg hl]
  have HR := Aside0.mk hr
  have HC := Aside0.mk hc
  have HK := Aside0.mk hk
  clear hr hc hk
  go_enter Try.func39, Try.ntmps39
  go_wp2
  go_loopw [5, 6, 7, 21] (fun v5 v6 v7 v21 wr => ∃ (i : Nat) (out : List S62) (d : List Int) (t : List S69), v21 = .int .i64 i ∧ Aside0 (i ≤ l.length) ∧ Aside0 ((out ++ (actsF (l.drop i) d t).1, (actsF (l.drop i) d t).2) = actsF l [] []) ∧ Aside0 (out.length ≤ i) ∧ Aside0 (SInv d t) ∧ Aside0 (Kd.V k69 69 wr 0 (fun q => some q ≠ v7.ownBlock) v5 t) ∧ Aside0 ((Kd.int .u8).R 5 wr w.heap.size (fun _ => True) v6 d) ∧ Aside0 (k62.R 62 wr w.heap.size (fun _ => True) v7 out) ∧ Aside0 (Below w.heap.size w wr)) (fun _ _ _ v21 _ => l.length - (intOf v21).toNat)
  case atStart => exact ⟨0, [], [], [], rfl, ⟨Nat.zero_le _⟩, ⟨rfl⟩, ⟨Nat.le_refl _⟩, ⟨SInv.nil⟩, ⟨Kd.V_nil _ _ _ _ _⟩, ⟨Kd.R_nil _ _ _ _ _⟩, ⟨Kd.R_nil _ _ _ _ _⟩, ⟨Below.refl _ _⟩⟩
  case round =>
    obtain ⟨i, out, d, t, rfl, hi, hs, hol, HI, HV, HF, HO, HB⟩ := hrel
    have hil := hi.out
    by_cases hlt : i < l.length
    · have hst := Aside0.mk (acts_next hs.out hlt)
      obtain ⟨ad, A1, c1, rfl, y0, y1, y2, y3, l1, g1⟩ := at_T67 (Kd.C_below HR.out HB.out) (i : Int) (by omega) (by omega)
      rw [Int.toNat_natCast] at y0 y1 y2 y3
      obtain ⟨m, hm⟩ : ∃ m, m = rd_T67 l (i : Int) := ⟨_, rfl⟩
      rw [← hm] at hst y0 y1 y2 y3 l1 g1
      have hmb : Aside0 (m.f2.size ≤ 140737488351232) := ⟨HK.out _ (by rw [hm, rd67 hlt]; exact List.getElem_mem _)⟩
      have hinv : Aside0 (SInv (actF d t m).2.1 (actF d t m).2.2) := ⟨actF_inv HI.out m⟩
      have G1 := Aside0.mk g1
      obtain ⟨A5, c5, rfl⟩ := Kd.V_slice HV.out
      obtain ⟨A6, c6, rfl⟩ := Kd.R_slice HF.out
      clear hm g1
      go_upto_block 2 with (fail)
      go_cut [5, 6] (fun v5 v6 wc => Aside0 (PCut w wr u7 (actF d t m) v5 v6 wc))
      case first =>
        obtain ⟨W0, hW0⟩ : ∃ W, W = (wr.alloc (.cells #[.int .i64 m.f0, .slice A1 m.f1.length c1, .string m.f2, .int .i64 m.f3] 67)).alloc (.cells #[.int .i64 0, .slice none 0 0] 62) := ⟨_, rfl⟩
        rw [← hW0]
        have BW0 : Aside0 (Below wr.heap.size wr W0) := ⟨hW0 ▸ below_alloc (below_alloc (Below.refl _ _) _) _⟩
        have hha : W0.heap[wr.heap.size]? = some (.cells #[.int .i64 m.f0, .slice A1 m.f1.length c1, .string m.f2, .int .i64 m.f3] 67 (0, 0)) := by rw [hW0]; exact (below_alloc (Below.refl _ _) _).block _ (by simp) |>.trans (blk_new wr _)
        have hh62 : Aside0 (W0.heap[wr.heap.size + 1]? = some (.cells #[.int .i64 0, .slice none 0 0] 62 (0, 0))) := ⟨by rw [hW0, show wr.heap.size + 1 = (wr.alloc (.cells #[.int .i64 m.f0, .slice A1 m.f1.length c1, .string m.f2, .int .i64 m.f3] 67)).heap.size by simp]; exact blk_new _ _⟩
        clear y0 y1 y2 y3
        have y0 : W0.cell? ⟨wr.heap.size, 0, none⟩ = some (.int .i64 m.f0) := by rw [blk_cell hha]; rfl
        have y1 : W0.cell? ⟨wr.heap.size, 1, none⟩ = some (.slice A1 m.f1.length c1) := by rw [blk_cell hha]; rfl
        have y2 : W0.cell? ⟨wr.heap.size, 2, none⟩ = some (.string m.f2) := by rw [blk_cell hha]; rfl
        have y3 : W0.cell? ⟨wr.heap.size, 3, none⟩ = some (.int .i64 m.f3) := by rw [blk_cell hha]; rfl
        have u0 : W0.cell? ⟨wr.heap.size + 1, 0, none⟩ = some (.int .i64 0) := by rw [blk_cell hh62.out]; rfl
        have u1 : W0.cell? ⟨wr.heap.size + 1, 1, none⟩ = some (.slice none 0 0) := by rw [blk_cell hh62.out]; rfl
        have g0 := blk_frozen hh62.out 0
        have g1 := blk_frozen hh62.out 1
        have CF : Aside0 (∀ W, Below wr.heap.size wr W → (Kd.int .u8).C W A6 d.length d) := ⟨fun W hW => Kd.C_below (Kd.R_reads' HF.out).2.2 hW⟩
        have CM : Aside0 (∀ W, Below W0.heap.size W0 W → k69.C W A1 m.f1.length m.f1) := ⟨fun W hW => Kd.C_below (Kd.C_below G1.out BW0.out) hW⟩
        have CT : Aside0 (∀ W, Below wr.heap.size wr W → k69.C W A5 t.length t) := ⟨fun W hW => Kd.C_below (Kd.V_reads' HV.out).2.2 hW⟩
        have ht5 := (Kd.V_reads' HV.out).2.1
        have hdl : d.length ≤ 1200 := by obtain ⟨_, _, _, _, h⟩ := HI.out; exact h
        have hown : ∀ q, wr.heap.size ≤ q → some q ≠ u7.ownBlock := fun q hq he => by have := Kd.R_lt HO.out q he.symm; omega
        have HHA := Aside0.mk hha
        clear hW0 hha hst hinv
        obtain ⟨k, cs, key, n⟩ := m
        simp only at y0 y1 y2 y3 CM l1 hmb HHA ⊢
        have H50 : Aside0 (∀ W, Below W0.heap.size W0 W → Calls Try.prog 50 #[.slice A5 t.length c5, .slice A1 cs.length c1] W fun e w' => ∃ v, e = .returned (.tuple #[v, .int .i64 (chgF t cs).2]) ∧ Kd.V k69 69 w' 0 (fun q => some q ≠ u7.ownBlock) v (chgF t cs).1 ∧ Below W.heap.size W w') := ⟨fun W hW => by
          obtain ⟨n, hn⟩ := (chg_ev t cs HI.out.asc (by have := HI.out.len; omega)).rounds
          refine (bagnallref_rowsChanges.calls n (fun q => some q ≠ u7.ownBlock) A5 c5 t A1 c1 cs _ _ W (Kd.V_below HV.out (below_step BW0.out hW)) (CM.out W hW) l1 hn).mono ?_
          rintro e w' ⟨v, h1, h2, h3⟩
          exact ⟨v, h1, Kd.V_mono h2 (fun q hq => hq.elim id (fun hq => hown q (Nat.le_trans (Nat.le_trans BW0.out.size hW.size) hq))), h3⟩⟩
        by_cases k1 : k = 1
        · subst k1
          by_cases e0 : cs.length = 0
          · have hsf : Aside0 (sfaultF d t cs = 1) := ⟨by unfold sfaultF; rw [if_pos e0]⟩
            have hr : actF d t ⟨1, cs, key, n⟩ = ((1, []), d, t) := by unfold actF; rw [if_pos rfl, if_pos (by rw [hsf.out]; simp), hsf.out]
            go_wp2
            go_meet
            case rel => exact ⟨PCut.code hh62.out BW0.out HV.out HF.out 1 hr⟩
          have e0' : ¬ (cs.length : Int) = 0 := by omega
          obtain ⟨f, hf⟩ : ∃ f, Aside0 (f = faultF t cs) := ⟨_, ⟨rfl⟩⟩
          by_cases hf0 : f = 0
          case neg =>
            have hsf : Aside0 (sfaultF d t cs = f) := ⟨by unfold sfaultF; rw [if_neg e0, ← hf.out, if_pos hf0]⟩
            have hr : actF d t ⟨1, cs, key, n⟩ = ((f, []), d, t) := by unfold actF; rw [if_pos rfl, if_pos (by rw [hsf.out]; exact hf0), hsf.out]
            have hcg : chgF t cs = ([], f) := by unfold chgF; rw [← hf.out, if_pos hf0]
            rw [hcg] at H50
            go_wp2_with (go_at_call 50; refine (H50.out _ (Below.refl _ _)).mono ?_; rintro e w1 ⟨v1, rfl, ho, hb⟩; obtain ⟨A11, c11, rfl⟩ := Kd.V_slice ho; have HV1 := Aside0.mk ho; have BW1 := Aside0.mk (below_step BW0.out hb); have HH1 := Aside0.mk ((hb.block _ (blk_lt hh62.out)).trans hh62.out); have z0 : w1.cell? ⟨wr.heap.size + 1, 0, none⟩ = some (.int .i64 0) := (by rw [blk_cell HH1.out]; rfl); have f0 := blk_frozen HH1.out 0; have a0 := (hb.cell (World.block_lt_of_cell? W0 _ y0)).trans y0; have a1 := (hb.cell (World.block_lt_of_cell? W0 _ y1)).trans y1; have a3 := (hb.cell (World.block_lt_of_cell? W0 _ y3)).trans y3; have hbw1 := Aside0.mk hb; clear ho hb)
            go_meet
            case rel => exact ⟨PCut.code HH1.out BW1.out HV.out HF.out f hr⟩
          subst hf0
          have hcg : chgF t cs = (changedF t cs, 0) := by unfold chgF; rw [← hf.out, if_neg (by simp)]
          rw [hcg] at H50
          obtain ⟨hn60, hodd, -⟩ := faultF_ok hf.out.symm
          have H62 : Aside0 (∀ W, Below W0.heap.size W0 W → Calls Try.prog 62 #[.slice A1 cs.length c1] W fun e w' => ∃ v, e = .returned v ∧ (Kd.int .u8).R 5 w' W.heap.size (fun _ => True) v (batchF cs) ∧ Below W.heap.size W w') := ⟨fun W hW => refBatch_walk A1 c1 cs W (CM.out W hW) l1 (by rintro rfl; exact e0 rfl) hn60 (okR_of hodd)⟩
          have hbl := batchF_len cs (oddR_small hodd)
          by_cases hbig : 1200 < d.length + (batchF cs).length
          · have hsf : Aside0 (sfaultF d t cs = 10) := ⟨by unfold sfaultF; rw [if_neg e0, ← hf.out, if_neg (by simp), if_pos hbig]⟩
            have hr : actF d t ⟨1, cs, key, n⟩ = ((10, []), d, t) := by unfold actF; rw [if_pos rfl, if_pos (by rw [hsf.out]; simp), hsf.out]
            generalize batchF cs = bt at *
            have hbig' : (1200 : Int) < (d.length : Int) + (bt.length : Int) := by omega
            go_wp2_with (first | (go_at_call 50; refine (H50.out _ (Below.refl _ _)).mono ?_; rintro e w1 ⟨v1, rfl, ho, hb⟩; obtain ⟨A11, c11, rfl⟩ := Kd.V_slice ho; have HV1 := Aside0.mk ho; have BW1 := Aside0.mk (below_step BW0.out hb); have HH1 := Aside0.mk ((hb.block _ (blk_lt hh62.out)).trans hh62.out); have z0 : w1.cell? ⟨wr.heap.size + 1, 0, none⟩ = some (.int .i64 0) := (by rw [blk_cell HH1.out]; rfl); have f0 := blk_frozen HH1.out 0; have a0 := (hb.cell (World.block_lt_of_cell? W0 _ y0)).trans y0; have a1 := (hb.cell (World.block_lt_of_cell? W0 _ y1)).trans y1; have a3 := (hb.cell (World.block_lt_of_cell? W0 _ y3)).trans y3; have hbw1 := Aside0.mk hb; clear ho hb) | (go_at_call 62; refine (H62.out _ hbw1.out).mono ?_; rintro e w2 ⟨v2, rfl, ho, hb⟩; obtain ⟨A13, c13, rfl⟩ := Kd.R_slice ho; have HO2 := Aside0.mk (Kd.R_reads' ho); have BW2 := Aside0.mk (below_step BW1.out hb); have HH2 := Aside0.mk ((hb.block _ (blk_lt HH1.out)).trans HH1.out); have z02 : w2.cell? ⟨wr.heap.size + 1, 0, none⟩ = some (.int .i64 0) := (by rw [blk_cell HH2.out]; rfl); have f02 := blk_frozen HH2.out 0; have b0 := (hb.cell (World.block_lt_of_cell? w1 _ a0)).trans a0; have b1 := (hb.cell (World.block_lt_of_cell? w1 _ a1)).trans a1; have b3 := (hb.cell (World.block_lt_of_cell? w1 _ a3)).trans a3; have hbw2 := Aside0.mk hb; clear ho hb))
            go_meet
            case rel => exact ⟨PCut.code HH2.out BW2.out HV.out HF.out 10 hr⟩
          have hsf : Aside0 (sfaultF d t cs = 0) := ⟨by unfold sfaultF; rw [if_neg e0, ← hf.out, if_neg (by simp), if_neg hbig]⟩
          have hr : actF d t ⟨1, cs, key, n⟩ = ((0, []), d ++ batchF cs, changedF t cs) := by unfold actF; rw [if_pos rfl, if_neg (by rw [hsf.out]; simp)]
          generalize batchF cs = bt at *
          have hbig' : ¬ (1200 : Int) < (d.length : Int) + (bt.length : Int) := by omega
          go_wp2_with (first | (go_at_call 50; refine (H50.out _ (Below.refl _ _)).mono ?_; rintro e w1 ⟨v1, rfl, ho, hb⟩; obtain ⟨A11, c11, rfl⟩ := Kd.V_slice ho; have HV1 := Aside0.mk ho; have BW1 := Aside0.mk (below_step BW0.out hb); have HH1 := Aside0.mk ((hb.block _ (blk_lt hh62.out)).trans hh62.out); have z0 : w1.cell? ⟨wr.heap.size + 1, 0, none⟩ = some (.int .i64 0) := (by rw [blk_cell HH1.out]; rfl); have f0 := blk_frozen HH1.out 0; have a0 := (hb.cell (World.block_lt_of_cell? W0 _ y0)).trans y0; have a1 := (hb.cell (World.block_lt_of_cell? W0 _ y1)).trans y1; have a3 := (hb.cell (World.block_lt_of_cell? W0 _ y3)).trans y3; have hbw1 := Aside0.mk hb; clear ho hb) | (go_at_call 62; refine (H62.out _ hbw1.out).mono ?_; rintro e w2 ⟨v2, rfl, ho, hb⟩; obtain ⟨A13, c13, rfl⟩ := Kd.R_slice ho; have HO2 := Aside0.mk (Kd.R_reads' ho); have BW2 := Aside0.mk (below_step BW1.out hb); have HH2 := Aside0.mk ((hb.block _ (blk_lt HH1.out)).trans HH1.out); have z02 : w2.cell? ⟨wr.heap.size + 1, 0, none⟩ = some (.int .i64 0) := (by rw [blk_cell HH2.out]; rfl); have f02 := blk_frozen HH2.out 0; have b0 := (hb.cell (World.block_lt_of_cell? w1 _ a0)).trans a0; have b1 := (hb.cell (World.block_lt_of_cell? w1 _ a1)).trans a1; have b3 := (hb.cell (World.block_lt_of_cell? w1 _ a3)).trans a3; have hbw2 := Aside0.mk hb; clear ho hb) | ((with_reducible refine gate_builtin (b := .append) (xs := #[.const (.slice none 0 0), .tmp 77]) rfl ?_); at_builtin; refine Kd.R_append_rows (Kd.int .u8) (w0 := w2) w2.heap.size rfl (.const (.slice none 0 0)) (.tmp 77) 36 5 (.int .u8 0) 1 rfl Try.underlying36 info5 rfl (by decide) (by omega) (.slice none 0 0) [] d _ _ _ (fun _ => True) (fun _ => False) rfl rfl (Kd.R_nil _ _ _ _ _) (CF.out _ BW2.out) (fun x cs h => h) (fun _ h => h.elim) (fun _ _ => trivial) (Below.refl _ _) (Nat.le_refl _) (by simp only [List.length_nil]; omega) ?_; intro v3 w3 ho hb hg hat; rw [List.nil_append] at ho; obtain ⟨A78, c78, rfl⟩ := Kd.R_slice ho; have HO3 := Aside0.mk ho; have HB3 := Aside0.mk hb; clear ho hb hg hat) | ((with_reducible refine gate_builtin (b := .append) (xs := #[.tmp 78, .tmp 79]) rfl ?_); at_builtin; refine Kd.R_append_rows (Kd.int .u8) (w0 := w2) w2.heap.size rfl (.tmp 78) (.tmp 79) 36 5 (.int .u8 0) 1 rfl Try.underlying36 info5 rfl (by decide) (by omega) (.slice A78 d.length c78) d bt _ _ _ (fun _ => True) (fun _ => False) rfl rfl HO3.out (Kd.C_below HO2.out.2.2 HB3.out) (fun x cs h => h) (fun _ h => h.elim) (fun _ _ => trivial) HB3.out (below_size HB3.out) (by omega) ?_; intro v4 w4 ho hb hg hat; obtain ⟨A80, c80, rfl⟩ := Kd.R_slice ho; rw [List.length_append] at ho; have HO4 := Aside0.mk ho; have HB4 := Aside0.mk hb; clear ho hb hg hat))
          go_meet
          case rel => exact ⟨PCut.same ((HB4.out.block _ (blk_lt HH2.out)).trans HH2.out) (below_step BW2.out HB4.out) (Kd.V_below (Kd.V_below HV1.out hbw2.out) HB4.out) (Kd.R_lower HO4.out (Nat.le_trans HB.out.size BW2.out.size)) hr⟩
        by_cases k5 : k = 5
        · subst k5
          by_cases n0 : n < 0
          · have hr : actF d t ⟨5, cs, key, n⟩ = ((2, []), d, t) := by unfold actF; rw [if_neg (by simp), if_neg (by simp), if_neg (by simp), if_neg (by simp), if_pos rfl, show crashCode d t cs n = 2 by unfold crashCode; rw [if_pos n0], if_pos (by simp)]
            go_wp2
            go_meet
            case rel => exact ⟨PCut.code hh62.out BW0.out HV.out HF.out 2 hr⟩
          have hn0 : 0 ≤ n := by omega
          by_cases e0 : cs.length = 0
          · have hsf : Aside0 (sfaultF d t cs = 1) := ⟨by unfold sfaultF; rw [if_pos e0]⟩
            have hr : actF d t ⟨5, cs, key, n⟩ = ((1, []), d, t) := by unfold actF; rw [if_neg (by simp), if_neg (by simp), if_neg (by simp), if_neg (by simp), if_pos rfl, crashCode_pos n0, if_pos (by rw [hsf.out]; simp), hsf.out]
            go_wp2
            go_meet
            case rel => exact ⟨PCut.code hh62.out BW0.out HV.out HF.out 1 hr⟩
          have e0' : ¬ (cs.length : Int) = 0 := by omega
          obtain ⟨f, hf⟩ : ∃ f, Aside0 (f = faultF t cs) := ⟨_, ⟨rfl⟩⟩
          by_cases hf0 : f = 0
          case neg =>
            have hsf : Aside0 (sfaultF d t cs = f) := ⟨by unfold sfaultF; rw [if_neg e0, ← hf.out, if_pos hf0]⟩
            have hr : actF d t ⟨5, cs, key, n⟩ = ((f, []), d, t) := by unfold actF; rw [if_neg (by simp), if_neg (by simp), if_neg (by simp), if_neg (by simp), if_pos rfl, crashCode_pos n0, if_pos (by rw [hsf.out]; exact hf0), hsf.out]
            have hcg : chgF t cs = ([], f) := by unfold chgF; rw [← hf.out, if_pos hf0]
            rw [hcg] at H50
            go_wp2_with (go_at_call 50; refine (H50.out _ (Below.refl _ _)).mono ?_; rintro e w1 ⟨v1, rfl, ho, hb⟩; obtain ⟨A11, c11, rfl⟩ := Kd.V_slice ho; have HV1 := Aside0.mk ho; have BW1 := Aside0.mk (below_step BW0.out hb); have HH1 := Aside0.mk ((hb.block _ (blk_lt hh62.out)).trans hh62.out); have z0 : w1.cell? ⟨wr.heap.size + 1, 0, none⟩ = some (.int .i64 0) := (by rw [blk_cell HH1.out]; rfl); have f0 := blk_frozen HH1.out 0; have a0 := (hb.cell (World.block_lt_of_cell? W0 _ y0)).trans y0; have a1 := (hb.cell (World.block_lt_of_cell? W0 _ y1)).trans y1; have a3 := (hb.cell (World.block_lt_of_cell? W0 _ y3)).trans y3; have hbw1 := Aside0.mk hb; clear ho hb)
            go_meet
            case rel => exact ⟨PCut.code HH1.out BW1.out HV.out HF.out f hr⟩
          subst hf0
          have hcg : chgF t cs = (changedF t cs, 0) := by unfold chgF; rw [← hf.out, if_neg (by simp)]
          rw [hcg] at H50
          obtain ⟨hn60, hodd, -⟩ := faultF_ok hf.out.symm
          have H62 : Aside0 (∀ W, Below W0.heap.size W0 W → Calls Try.prog 62 #[.slice A1 cs.length c1] W fun e w' => ∃ v, e = .returned v ∧ (Kd.int .u8).R 5 w' W.heap.size (fun _ => True) v (batchF cs) ∧ Below W.heap.size W w') := ⟨fun W hW => refBatch_walk A1 c1 cs W (CM.out W hW) l1 (by rintro rfl; exact e0 rfl) hn60 (okR_of hodd)⟩
          have hbl := batchF_len cs (oddR_small hodd)
          by_cases hbig : 1200 < d.length + (batchF cs).length
          · have hsf : Aside0 (sfaultF d t cs = 10) := ⟨by unfold sfaultF; rw [if_neg e0, ← hf.out, if_neg (by simp), if_pos hbig]⟩
            have hr : actF d t ⟨5, cs, key, n⟩ = ((10, []), d, t) := by unfold actF; rw [if_neg (by simp), if_neg (by simp), if_neg (by simp), if_neg (by simp), if_pos rfl, crashCode_pos n0, if_pos (by rw [hsf.out]; simp), hsf.out]
            generalize batchF cs = bt at *
            have hbig' : (1200 : Int) < (d.length : Int) + (bt.length : Int) := by omega
            go_wp2_with (first | (go_at_call 50; refine (H50.out _ (Below.refl _ _)).mono ?_; rintro e w1 ⟨v1, rfl, ho, hb⟩; obtain ⟨A11, c11, rfl⟩ := Kd.V_slice ho; have HV1 := Aside0.mk ho; have BW1 := Aside0.mk (below_step BW0.out hb); have HH1 := Aside0.mk ((hb.block _ (blk_lt hh62.out)).trans hh62.out); have z0 : w1.cell? ⟨wr.heap.size + 1, 0, none⟩ = some (.int .i64 0) := (by rw [blk_cell HH1.out]; rfl); have f0 := blk_frozen HH1.out 0; have a0 := (hb.cell (World.block_lt_of_cell? W0 _ y0)).trans y0; have a1 := (hb.cell (World.block_lt_of_cell? W0 _ y1)).trans y1; have a3 := (hb.cell (World.block_lt_of_cell? W0 _ y3)).trans y3; have hbw1 := Aside0.mk hb; clear ho hb) | (go_at_call 62; refine (H62.out _ hbw1.out).mono ?_; rintro e w2 ⟨v2, rfl, ho, hb⟩; obtain ⟨A13, c13, rfl⟩ := Kd.R_slice ho; have HO2 := Aside0.mk (Kd.R_reads' ho); have BW2 := Aside0.mk (below_step BW1.out hb); have HH2 := Aside0.mk ((hb.block _ (blk_lt HH1.out)).trans HH1.out); have z02 : w2.cell? ⟨wr.heap.size + 1, 0, none⟩ = some (.int .i64 0) := (by rw [blk_cell HH2.out]; rfl); have f02 := blk_frozen HH2.out 0; have b0 := (hb.cell (World.block_lt_of_cell? w1 _ a0)).trans a0; have b1 := (hb.cell (World.block_lt_of_cell? w1 _ a1)).trans a1; have b3 := (hb.cell (World.block_lt_of_cell? w1 _ a3)).trans a3; have hbw2 := Aside0.mk hb; clear ho hb))
            go_meet
            case rel => exact ⟨PCut.code HH2.out BW2.out HV.out HF.out 10 hr⟩
          have hsf : Aside0 (sfaultF d t cs = 0) := ⟨by unfold sfaultF; rw [if_neg e0, ← hf.out, if_neg (by simp), if_neg hbig]⟩
          by_cases hn : n < ((batchF cs).length : Int)
          · have hr : actF d t ⟨5, cs, key, n⟩ = ((0, []), d, t) := by unfold actF; rw [if_neg (by simp), if_neg (by simp), if_neg (by simp), if_neg (by simp), if_pos rfl, crashCode_pos n0, if_neg (by rw [hsf.out]; simp), if_pos hn]
            generalize batchF cs = bt at *
            have hbig' : ¬ (1200 : Int) < (d.length : Int) + (bt.length : Int) := by omega
            go_wp2_with (first | (go_at_call 50; refine (H50.out _ (Below.refl _ _)).mono ?_; rintro e w1 ⟨v1, rfl, ho, hb⟩; obtain ⟨A11, c11, rfl⟩ := Kd.V_slice ho; have HV1 := Aside0.mk ho; have BW1 := Aside0.mk (below_step BW0.out hb); have HH1 := Aside0.mk ((hb.block _ (blk_lt hh62.out)).trans hh62.out); have z0 : w1.cell? ⟨wr.heap.size + 1, 0, none⟩ = some (.int .i64 0) := (by rw [blk_cell HH1.out]; rfl); have f0 := blk_frozen HH1.out 0; have a0 := (hb.cell (World.block_lt_of_cell? W0 _ y0)).trans y0; have a1 := (hb.cell (World.block_lt_of_cell? W0 _ y1)).trans y1; have a3 := (hb.cell (World.block_lt_of_cell? W0 _ y3)).trans y3; have hbw1 := Aside0.mk hb; clear ho hb) | (go_at_call 62; refine (H62.out _ hbw1.out).mono ?_; rintro e w2 ⟨v2, rfl, ho, hb⟩; obtain ⟨A13, c13, rfl⟩ := Kd.R_slice ho; have HO2 := Aside0.mk (Kd.R_reads' ho); have BW2 := Aside0.mk (below_step BW1.out hb); have HH2 := Aside0.mk ((hb.block _ (blk_lt HH1.out)).trans HH1.out); have z02 : w2.cell? ⟨wr.heap.size + 1, 0, none⟩ = some (.int .i64 0) := (by rw [blk_cell HH2.out]; rfl); have f02 := blk_frozen HH2.out 0; have b0 := (hb.cell (World.block_lt_of_cell? w1 _ a0)).trans a0; have b1 := (hb.cell (World.block_lt_of_cell? w1 _ a1)).trans a1; have b3 := (hb.cell (World.block_lt_of_cell? w1 _ a3)).trans a3; have hbw2 := Aside0.mk hb; clear ho hb))
            go_meet
            case rel => exact ⟨PCut.same HH2.out BW2.out (Kd.V_below HV.out BW2.out) (Kd.R_below HF.out BW2.out) hr⟩
          have hr : actF d t ⟨5, cs, key, n⟩ = ((0, []), d ++ batchF cs, changedF t cs) := by unfold actF; rw [if_neg (by simp), if_neg (by simp), if_neg (by simp), if_neg (by simp), if_pos rfl, crashCode_pos n0, if_neg (by rw [hsf.out]; simp), if_neg hn]
          generalize batchF cs = bt at *
          have hbig' : ¬ (1200 : Int) < (d.length : Int) + (bt.length : Int) := by omega
          go_wp2_with (first | (go_at_call 50; refine (H50.out _ (Below.refl _ _)).mono ?_; rintro e w1 ⟨v1, rfl, ho, hb⟩; obtain ⟨A11, c11, rfl⟩ := Kd.V_slice ho; have HV1 := Aside0.mk ho; have BW1 := Aside0.mk (below_step BW0.out hb); have HH1 := Aside0.mk ((hb.block _ (blk_lt hh62.out)).trans hh62.out); have z0 : w1.cell? ⟨wr.heap.size + 1, 0, none⟩ = some (.int .i64 0) := (by rw [blk_cell HH1.out]; rfl); have f0 := blk_frozen HH1.out 0; have a0 := (hb.cell (World.block_lt_of_cell? W0 _ y0)).trans y0; have a1 := (hb.cell (World.block_lt_of_cell? W0 _ y1)).trans y1; have a3 := (hb.cell (World.block_lt_of_cell? W0 _ y3)).trans y3; have hbw1 := Aside0.mk hb; clear ho hb) | (go_at_call 62; refine (H62.out _ hbw1.out).mono ?_; rintro e w2 ⟨v2, rfl, ho, hb⟩; obtain ⟨A13, c13, rfl⟩ := Kd.R_slice ho; have HO2 := Aside0.mk (Kd.R_reads' ho); have BW2 := Aside0.mk (below_step BW1.out hb); have HH2 := Aside0.mk ((hb.block _ (blk_lt HH1.out)).trans HH1.out); have z02 : w2.cell? ⟨wr.heap.size + 1, 0, none⟩ = some (.int .i64 0) := (by rw [blk_cell HH2.out]; rfl); have f02 := blk_frozen HH2.out 0; have b0 := (hb.cell (World.block_lt_of_cell? w1 _ a0)).trans a0; have b1 := (hb.cell (World.block_lt_of_cell? w1 _ a1)).trans a1; have b3 := (hb.cell (World.block_lt_of_cell? w1 _ a3)).trans a3; have hbw2 := Aside0.mk hb; clear ho hb) | ((with_reducible refine gate_builtin (b := .append) (xs := #[.const (.slice none 0 0), .tmp 77]) rfl ?_); at_builtin; refine Kd.R_append_rows (Kd.int .u8) (w0 := w2) w2.heap.size rfl (.const (.slice none 0 0)) (.tmp 77) 36 5 (.int .u8 0) 1 rfl Try.underlying36 info5 rfl (by decide) (by omega) (.slice none 0 0) [] d _ _ _ (fun _ => True) (fun _ => False) rfl rfl (Kd.R_nil _ _ _ _ _) (CF.out _ BW2.out) (fun x cs h => h) (fun _ h => h.elim) (fun _ _ => trivial) (Below.refl _ _) (Nat.le_refl _) (by simp only [List.length_nil]; omega) ?_; intro v3 w3 ho hb hg hat; rw [List.nil_append] at ho; obtain ⟨A78, c78, rfl⟩ := Kd.R_slice ho; have HO3 := Aside0.mk ho; have HB3 := Aside0.mk hb; clear ho hb hg hat) | ((with_reducible refine gate_builtin (b := .append) (xs := #[.tmp 78, .tmp 79]) rfl ?_); at_builtin; refine Kd.R_append_rows (Kd.int .u8) (w0 := w2) w2.heap.size rfl (.tmp 78) (.tmp 79) 36 5 (.int .u8 0) 1 rfl Try.underlying36 info5 rfl (by decide) (by omega) (.slice A78 d.length c78) d bt _ _ _ (fun _ => True) (fun _ => False) rfl rfl HO3.out (Kd.C_below HO2.out.2.2 HB3.out) (fun x cs h => h) (fun _ h => h.elim) (fun _ _ => trivial) HB3.out (below_size HB3.out) (by omega) ?_; intro v4 w4 ho hb hg hat; obtain ⟨A80, c80, rfl⟩ := Kd.R_slice ho; rw [List.length_append] at ho; have HO4 := Aside0.mk ho; have HB4 := Aside0.mk hb; clear ho hb hg hat))
          go_meet
          case rel => exact ⟨PCut.same ((HB4.out.block _ (blk_lt HH2.out)).trans HH2.out) (below_step BW2.out HB4.out) (Kd.V_below (Kd.V_below HV1.out hbw2.out) HB4.out) (Kd.R_lower HO4.out (Nat.le_trans HB.out.size BW2.out.size)) hr⟩
        by_cases k2 : k = 2
        · subst k2
          have hr : Aside0 (actF d t ⟨2, cs, key, n⟩ = ((if (lastR key [] t).length = 0 then 8 else 0, lastR key [] t), d, t)) := ⟨by unfold actF; rw [if_neg (by simp), if_pos rfl, lastR_get key t HI.out.asc]⟩
          have htl := HI.out.len
          obtain ⟨wo, hwo⟩ : ∃ x, x = wr := ⟨wr, rfl⟩
          subst hwo
          go_wp2
          go_loopw [85] (fun v85 wc => ∃ (j : Nat) (rs : List S69) (xv : Value), v85 = .int .i64 j ∧ Aside0 (j ≤ t.length) ∧ Aside0 (lastR key rs (t.drop j) = lastR key [] t) ∧ Aside0 (wc.heap[wo.heap.size + 1]? = some (.cells #[.int .i64 0, xv] 62 (0, 0))) ∧ Aside0 (k69.R 69 wc w.heap.size (fun q => wo.heap.size ≤ q) xv rs) ∧ Aside0 (wc.heap[wo.heap.size]? = some (.cells #[.int .i64 2, .slice A1 cs.length c1, .string key, .int .i64 n] 67 (0, 0))) ∧ Aside0 (Below wo.heap.size wo wc)) (fun v85 _ => t.length - (intOf v85).toNat)
          case atStart => exact ⟨0, [], .slice none 0 0, rfl, ⟨Nat.zero_le _⟩, ⟨rfl⟩, hh62, ⟨Kd.R_nil _ _ _ _ _⟩, HHA, BW0⟩
          case round =>
            obtain ⟨j, rs, xv, rfl, hj, hls, HX, HRs, hky, HBc⟩ := hrel
            have hj' := hj.out
            have hszc := HBc.out.size
            have hl1 := blk_lt HX.out
            by_cases hjt : j < t.length
            · obtain ⟨ad2, rfl, x0, x1⟩ := at_T69 (CT.out wr HBc.out) (j : Int) (by omega) (by omega)
              obtain ⟨r, hrd⟩ : ∃ r, r = rd_T69 t (j : Int) := ⟨_, rfl⟩
              have hstep : Aside0 ((if r.f0 = key then lastR key [r] (t.drop (j + 1)) else lastR key rs (t.drop (j + 1))) = lastR key [] t) := ⟨by
                rw [← hls.out, List.drop_eq_getElem_cons hjt, hrd, rd69 hjt]
                rfl⟩
              rw [← hrd] at x0 x1
              rw [Int.toNat_natCast] at x0 x1
              clear hrd hls
              obtain ⟨rk, ru⟩ := r
              simp only at x0 x1 hstep
              have ne0 : ¬ wo.heap.size = wr.heap.size := by omega
              have ne1 : ¬ wo.heap.size + 1 = wr.heap.size := by omega
              have BA1 : Aside0 (Below wr.heap.size wr (wr.alloc (.cells #[.string rk, .string ru] 69))) := ⟨below_alloc (Below.refl _ _) _⟩
              have HKA := Aside0.mk ((BA1.out.block _ (blk_lt hky.out)).trans hky.out)
              have kA : (wr.alloc (.cells #[.string rk, .string ru] 69)).cell? ⟨wo.heap.size, 2, none⟩ = some (.string key) := by rw [blk_cell HKA.out]; rfl
              by_cases hkk : rk = key
              · subst hkk
                rw [if_pos rfl] at hstep
                have BA : Aside0 (Below wr.heap.size wr ((wr.alloc (.cells #[.string rk, .string ru] 69)).alloc (.cells #[.string rk, .string ru] 69))) := ⟨below_alloc (below_alloc (Below.refl _ _) _) _⟩
                have HXA : Aside0 (((wr.alloc (.cells #[.string rk, .string ru] 69)).alloc (.cells #[.string rk, .string ru] 69)).heap[wo.heap.size + 1]? = some (.cells #[.int .i64 0, xv] 62 (0, 0))) := ⟨(BA.out.block _ hl1).trans HX.out⟩
                have v1 : ((wr.alloc (.cells #[.string rk, .string ru] 69)).alloc (.cells #[.string rk, .string ru] 69)).cell? ⟨wo.heap.size + 1, 1, none⟩ = some xv := by rw [blk_cell HXA.out]; rfl
                have q1 := blk_frozen HXA.out 1
                have hRn : Aside0 (k69.R 69 ((wr.alloc (.cells #[.string rk, .string ru] 69)).alloc (.cells #[.string rk, .string ru] 69)) wo.heap.size (fun _ => True) (.slice (some ⟨wr.heap.size + 1, 0, none⟩) 1 1) [⟨rk, ru⟩]) := ⟨row_mk (by omega) (by rw [show wr.heap.size + 1 = (wr.alloc (.cells #[.string rk, .string ru] 69)).heap.size by simp]; exact blk_new _ _) rfl (Nat.le_refl _) (by decide) rfl rfl⟩
                have hRn2 := Aside0.mk (Kd.R_mono (ok' := fun q => wo.heap.size ≤ q) (Kd.R_lower (Kd.R_bound hRn.out) HB.out.size) (fun q hq => hq.2.1))
                have HXS := Aside0.mk (heap_set1 (j := 1) (u := .slice (some ⟨wr.heap.size + 1, 0, none⟩) 1 1) HXA.out)
                have hRS := Aside0.mk (Kd.R_set hRn2.out HXA.out (by intro q hq; have : q = 69 := (by simpa [k69, Kd.iso, Kd.pair, Kd.string, Kd.scalar] using hq); omega) 1 (.slice (some ⟨wr.heap.size + 1, 0, none⟩) 1 1))
                have hBS := Aside0.mk (below_set_new (k := wo.heap.size + 1) (j := 1) (below_step HBc.out BA.out) (by omega) (.slice (some ⟨wr.heap.size + 1, 0, none⟩) 1 1))
                have hkS := Aside0.mk ((Below.heap_setCell ((wr.alloc (.cells #[.string rk, .string ru] 69)).alloc (.cells #[.string rk, .string ru] 69)) ⟨wo.heap.size + 1, 1, none⟩ (.slice (some ⟨wr.heap.size + 1, 0, none⟩) 1 1) wo.heap.size (by show wo.heap.size ≠ wo.heap.size + 1; omega)).trans ((BA.out.block _ (blk_lt hky.out)).trans hky.out))
                go_wp2
                go_roundw
                case rel => exact ⟨j + 1, [⟨rk, ru⟩], _, by simp, ⟨hjt⟩, hstep, HXS, hRS, hkS, hBS⟩
                case measure => simp [intOf]; omega
              · rw [if_neg hkk] at hstep
                have hkt : (rk.toList == key.toList) = false := by rw [beq_eq_false_iff_ne]; exact fun e => hkk (toList_inj.1 e)
                go_wp2
                go_roundw
                case rel => exact ⟨j + 1, rs, xv, by simp, ⟨hjt⟩, hstep, ⟨(BA1.out.block _ hl1).trans HX.out⟩, ⟨Kd.R_below HRs.out BA1.out⟩, HKA, ⟨below_step HBc.out BA1.out⟩⟩
                case measure => simp [intOf]; omega
            · have hro : Aside0 (rs = lastR key [] t) := ⟨by have := hls.out; rw [List.drop_of_length_le (by omega)] at this; exact this⟩
              obtain ⟨Ax, cx, rfl⟩ := Kd.R_slice HRs.out
              have v0 : wr.cell? ⟨wo.heap.size + 1, 0, none⟩ = some (.int .i64 0) := by rw [blk_cell HX.out]; rfl
              have v1 : wr.cell? ⟨wo.heap.size + 1, 1, none⟩ = some (.slice Ax rs.length cx) := by rw [blk_cell HX.out]; rfl
              have q0 := blk_frozen HX.out 0
              by_cases hz : rs = []
              · subst hz
                have hr2 : actF d t ⟨2, cs, key, n⟩ = ((8, []), d, t) := by rw [hr.out, ← hro.out]; rfl
                go_wp2
                go_meet
                case rel =>
                  refine ⟨?_⟩
                  rw [hr2]
                  have hB2 := below_set_new (k := wo.heap.size + 1) (j := 0) HBc.out (by omega) (.int .i64 8)
                  exact ⟨_, by rw [heap_set1 HX.out]; rfl, Kd.R_set HRs.out HX.out (by intro q hq; have : q = 69 := (by simpa [k69, Kd.iso, Kd.pair, Kd.string, Kd.scalar] using hq); omega) _ _, Kd.V_below HV.out hB2, Kd.R_below HF.out hB2, hB2⟩
              · have hz0 : ¬ rs.length = 0 := fun e => hz (List.length_eq_zero_iff.1 e)
                have hz1 : ¬ (rs.length : Int) = 0 := by omega
                have hr2 : actF d t ⟨2, cs, key, n⟩ = ((0, rs), d, t) := by rw [hr.out, ← hro.out, if_neg hz0]
                go_wp2
                go_meet
                case rel =>
                  refine ⟨?_⟩
                  rw [hr2]
                  exact ⟨_, HX.out, HRs.out, Kd.V_below HV.out HBc.out, Kd.R_below HF.out HBc.out, HBc.out⟩
        by_cases k3 : k = 3
        · subst k3
          have hr : actF d t ⟨3, cs, key, n⟩ = ((0, beginF key t), d, t) := by unfold actF; rw [if_neg (by simp), if_neg (by simp), if_pos rfl]
          have H47 : Aside0 (∀ W, Below wr.heap.size wr W → Calls Try.prog 47 #[.slice A5 t.length c5, .string key] W fun e w' => ∃ v0_ : Value, e = .returned (v0_) ∧ Kd.R k69 69 w' W.heap.size (fun _ => True) v0_ (beginF key t) ∧ Below W.heap.size W w') := ⟨fun W hW => by
            obtain ⟨n, hn⟩ := (refBegin_ev t key HI.out.len).rounds
            exact bagnallref_rowsBegin.calls n A5 c5 t key _ W (CT.out W hW) ht5 hn⟩
          generalize beginF key t = bs at *
          go_wp2_with (go_at_call 47; refine (H47.out _ BW0.out).mono ?_; rintro e w1 ⟨v1, rfl, ho, hb⟩; obtain ⟨A11, c11, rfl⟩ := Kd.R_slice ho; have HO1 := Aside0.mk (Kd.R_mono (ok' := fun q => wr.heap.size ≤ q) (Kd.R_lower (Kd.R_bound ho) (Nat.le_trans HB.out.size BW0.out.size)) (fun q hq => Nat.le_trans BW0.out.size hq.2.1)); have BW1 := Aside0.mk (below_step BW0.out hb); have HH1 := Aside0.mk ((hb.block _ (blk_lt hh62.out)).trans hh62.out); have z1 : w1.cell? ⟨wr.heap.size + 1, 1, none⟩ = some (.slice none 0 0) := (by rw [blk_cell HH1.out]; rfl); have f1 := blk_frozen HH1.out 1; clear ho hb)
          go_meet
          case rel => exact ⟨PCut.rows HH1.out BW1.out HV.out HF.out HO1.out hr⟩
        by_cases k4 : k = 4
        · subst k4
          have hr : actF d t ⟨4, cs, key, n⟩ = ((0, []), batchF t, t) := by unfold actF; rw [if_neg (by simp), if_neg (by simp), if_neg (by simp), if_pos rfl]
          by_cases ht0 : t = []
          · subst ht0
            go_wp2
            go_meet
            case rel => exact ⟨PCut.same hh62.out BW0.out (Kd.V_below HV.out BW0.out) (Kd.R_nil _ _ _ _ _) hr⟩
          have ht0' : (0 : Int) < (t.length : Int) := by
            cases t with
            | nil => exact absurd rfl ht0
            | cons a b => simp
          have H62 : Aside0 (∀ W, Below wr.heap.size wr W → Calls Try.prog 62 #[.slice A5 t.length c5] W fun e w' => ∃ v, e = .returned v ∧ (Kd.int .u8).R 5 w' W.heap.size (fun _ => True) v (batchF t) ∧ Below W.heap.size W w') := ⟨fun W hW => refBatch_walk A5 c5 t W (CT.out W hW) ht5 ht0 (by have := HI.out.len; omega) (fun r hr => (HI.out.full r hr).1)⟩
          generalize batchF t = bt at *
          go_wp2_with (go_at_call 62; refine (H62.out _ BW0.out).mono ?_; rintro e w1 ⟨v1, rfl, ho, hb⟩; obtain ⟨A11, c11, rfl⟩ := Kd.R_slice ho; have HO1 := Aside0.mk (Kd.R_lower ho (Nat.le_trans HB.out.size BW0.out.size)); have BW1 := Aside0.mk (below_step BW0.out hb); have HH1 := Aside0.mk ((hb.block _ (blk_lt hh62.out)).trans hh62.out); clear ho hb)
          go_meet
          case rel => exact ⟨PCut.same HH1.out BW1.out (Kd.V_below HV.out BW1.out) HO1.out hr⟩
        have hr : actF d t ⟨k, cs, key, n⟩ = ((3, []), d, t) := by unfold actF; rw [if_neg k1, if_neg k2, if_neg k3, if_neg k4, if_neg k5]
        have q1 : (k == 1) = false := by simpa using k1
        have q2 : (k == 2) = false := by simpa using k2
        have q3 : (k == 3) = false := by simpa using k3
        have q4 : (k == 4) = false := by simpa using k4
        have q5 : (k == 5) = false := by simpa using k5
        go_wp2
        go_meet
        case rel => exact ⟨PCut.code hh62.out BW0.out HV.out HF.out 3 hr⟩
      case rest =>
        obtain ⟨xv, hx, hrs, hv5, hv6, hbc⟩ := hcut.out
        obtain ⟨⟨⟨code, rs⟩, d', t'⟩, hR⟩ : ∃ r, Aside0 (r = actF d t m) := ⟨_, ⟨rfl⟩⟩
        rw [← hR.out] at hx hrs hv5 hv6 hst hinv
        simp only at hx hrs hv5 hv6 hst hinv
        obtain ⟨Ar, cr, rfl⟩ := Kd.R_slice hrs
        have HX := Aside0.mk hrs
        have HV5 := Aside0.mk hv5
        have HV6 := Aside0.mk hv6
        have HOc := Aside0.mk (Kd.R_below HO.out hbc)
        have HBw := Aside0.mk (below_step HB.out hbc)
        have z0 : wc.cell? ⟨wr.heap.size + 1, 0, none⟩ = some (.int .i64 code) := by rw [blk_cell hx]; rfl
        have z1 : wc.cell? ⟨wr.heap.size + 1, 1, none⟩ = some (.slice Ar rs.length cr) := by rw [blk_cell hx]; rfl
        have hap : Aside0 (∀ q, wr.heap.size ≤ q → True ∧ some q ≠ u7.ownBlock) := ⟨fun q hq => ⟨trivial, fun he => (by have := Kd.R_lt HO.out q he.symm; omega)⟩⟩
        clear hcut hx hrs hv5 hv6 hR hbc
        go_wp2_with ((with_reducible refine gate_builtin (b := .append) (xs := #[.tmp 117, .tmp 119]) rfl ?_); at_builtin; refine Kd.R_append k62 (w0 := w) w.heap.size rfl (.tmp 117) (.tmp 119) 58 62 _ 32 rfl Try.underlying58 info62 rfl (by decide) (by omega) u7 out ⟨code, rs⟩ [.int .i64 code, .slice Ar rs.length cr] (fun _ => True) (fun q => wr.heap.size ≤ q) rfl rfl (k62_mkM _ _ _ ⟨code, rs⟩ HX.out) hap.out (fun _ _ => trivial) HOc.out HBw.out (below_size HBw.out) (by have := hol.out; omega) ?_; intro v4 w4 ho hb hg hat; obtain ⟨A4, c4, rfl⟩ := Kd.R_slice ho; rw [List.length_append, List.length_singleton] at ho hat; have HO4 := Aside0.mk ho; have HB4 := Aside0.mk hb; have HM4 := Aside0.mk (ModT.grown (T := [62]) hg HOc.out (by simp) (Nat.le_refl _)); have HV4 := Aside0.mk (Kd.V_mono (Kd.V_after (ok := fun _ => True) (Kd.V_mono HV5.out (fun q hq => ⟨trivial, hq⟩)) hg hat) (fun q hq => hq.2)); clear ho hb hg hat)
        go_roundw
        case rel => exact ⟨i + 1, out ++ [⟨code, rs⟩], d', t', by simp, ⟨hlt⟩, hst, ⟨by have := hol.out; rw [List.length_append, List.length_singleton]; omega⟩, hinv, HV4, ⟨HM4.out.R HV6.out (by intro q hq; simp [Kd.int, Kd.scalar] at hq; subst hq; simp)⟩, HO4, HB4⟩
        case measure => simp [intOf]; omega
    · have he : Aside0 ((out, d, t) = actsF l [] []) := ⟨by have := hs.out; rw [List.drop_of_length_le (by omega)] at this; simpa [actsF] using this⟩
      go_wp2
      go_ret3
      rw [← he.out]
      exact ⟨_, _, rfl, HO.out, HF.out, HB.out⟩
end Go.Proofs.Ytnjidfgjldkkcaa.Q
/- store.Play answers as the reference does, for all acts; no condition. -/
namespace Go.Proofs.Ytnjidfgjldkkcaa.Pure
open Go.RowKit Go.Proofs.Ytnjidfgjldkkcaa.Q Go.Proofs.YtnjidfgjldkkcaaW.PrintWords Go.Proofs.Ytnjidfgjldkkcaa.Plain
/-- Acts that a memory bears. -/
def ActsOk (l : List S67) : Prop := l.length ≤ 9223372036854775807 ∧ l.length * Try.prog.bytesOf 67 ≤ 140737488351232 ∧ ∀ a ∈ l, (Lit.int .i64 a.f0).wf = true ∧ (a.f1.length ≤ 9223372036854775807 ∧ a.f1.length * Try.prog.bytesOf 69 ≤ 140737488351232 ∧ ∀ x ∈ a.f1, x.f0.size ≤ 140737488351232 ∧ x.f1.size ≤ 140737488351232) ∧ a.f2.size ≤ 140737488351232 ∧ (Lit.int .i64 a.f3).wf = true
theorem ActsOk.key {l : List S67} (h : ActsOk l) : ∀ a ∈ l, a.f2.size ≤ 140737488351232 := fun a ha => (h.2.2 a ha).2.2.1
theorem act_rows {d : List Int} {t : List S69} (h : SInv d t) (a : S67) : (actF d t a).1.2.length ≤ 40 := by
  have hl := h.len
  have hb : (beginF a.f2 t).length ≤ 40 := Nat.le_trans (List.length_filter_le _ _) hl
  have hg : (getF a.f2 t).2.length ≤ 40 := by
    unfold getF
    split <;> simp
  unfold actF
  repeat' split
  all_goals first | exact hb | exact hg | simp
theorem acts_bound : ∀ (l : List S67) (d : List Int) (t : List S69), SInv d t → (∀ x ∈ (actsF l d t).1, x.f1.length ≤ 40) ∧ (actsF l d t).2.1.length ≤ 1200 ∧ (actsF l d t).1.length = l.length
  | [], d, t, h => ⟨fun x hx => by simp [actsF] at hx, by obtain ⟨_, _, _, _, h⟩ := h; exact h, rfl⟩
  | a :: l, d, t, h => by
    obtain ⟨h1, h2, h3⟩ := acts_bound l (actF d t a).2.1 (actF d t a).2.2 (actF_inv h a)
    refine ⟨fun x hx => ?_, h2, by simp only [actsF, List.length_cons, h3]⟩
    simp only [actsF] at hx
    rcases List.mem_cons.1 hx with rfl | hx
    · exact act_rows h a
    · exact h1 x hx
theorem splay_bound (l : List S67) : (∀ x ∈ (splayF l).1, x.f1.length ≤ 40) ∧ (splayF l).2.1.length ≤ 1200 ∧ (splayF l).1.length ≤ 100 := by
  unfold splayF
  by_cases h : 100 < l.length
  · rw [if_pos h]; simp
  · rw [if_neg h]
    obtain ⟨h1, h2, h3⟩ := acts_bound l [] [] SInv.nil
    exact ⟨h1, h2, by simp only [h3]; omega⟩
theorem sameBytes_walk (A B : Option Addr) (c c' : Nat) (x : List Int) (w : World) (hx : Kd.C (Kd.int .u8) w A x.length x) (hc : x.length ≤ c) (hy : Kd.C (Kd.int .u8) w B x.length x) (hc' : x.length ≤ c') (hl : x.length ≤ 1000000) :
    Calls Try.prog 29 #[.slice A x.length c, .slice B x.length c'] w fun e w' => e = .returned (.bool true) ∧ Drawn0 w w' := by
  obtain ⟨n, hn⟩ := (sameB_ev x hl).rounds
  exact bagnalllaw_sameBytes.calls n A c x B c' x true w hx hc hy hc' hn
theorem sameRows_walk (A B : Option Addr) (c c' : Nat) (x : List S69) (w : World) (hx : Kd.C k69 w A x.length x) (hc : x.length ≤ c) (hy : Kd.C k69 w B x.length x) (hc' : x.length ≤ c') (hl : x.length ≤ 1000000) :
    Calls Try.prog 24 #[.slice A x.length c, .slice B x.length c'] w fun e w' => e = .returned (.bool true) ∧ Drawn0 w w' := by
  obtain ⟨n, hn⟩ := (same_ev x hl).rounds
  exact bagnalllaw_sameRows.calls n A c x B c' x true w hx hc hy hc' hn
theorem rd62 {l : List S62} {i : Nat} (hi : i < l.length) : rd_T62 l (i : Int) = l[i] := by
  unfold rd_T62
  rw [Int.toNat_natCast, List.getD_eq_getElem?_getD, List.getElem?_eq_getElem hi]; rfl
set_option maxRecDepth 100000 in
set_option maxHeartbeats 8000000 in
theorem walkStorePlays (W : World) (l : List S67) (A : Option Addr) (c : Nat) (hc : l.length ≤ c) (C : Kd.C k67 W A l.length l) (okA : ActsOk l) :
    Calls Try.prog 13 #[.slice A l.length c] W fun e w' => e = .returned (.bool true) ∧ Below W.heap.size W w' := by
  have ok := okA.key
  have H1 := Aside0.mk (store_Play A c l W C hc ok)
  have H2 : Aside0 (∀ w, Below W.heap.size W w → Calls Try.prog 39 #[.slice A l.length c] w (Splay w (splayF l))) := ⟨fun w hw => ref_StorePlayed A c l w (Kd.C_below C hw) hc ok⟩
  have hbd := splay_bound l
  obtain ⟨R, hR⟩ : ∃ R, R = splayF l := ⟨_, rfl⟩
  rw [← hR] at H1 H2 hbd
  obtain ⟨told, file, code⟩ := R
  obtain ⟨hb1, hb2, hb3⟩ := hbd
  simp only at hb1 hb2 hb3
  have HB1' := Aside0.mk hb1
  clear hR C hc ok okA hb1
  go_enter Try.func13, Try.ntmps13
  go_wp2_with (first | (go_at_call 38; refine H1.out.mono ?_; rintro e w1 ⟨vc, vd, rfl, ho1, ho2, hb1⟩; obtain ⟨Ac, cc, rfl⟩ := Kd.R_slice ho1; obtain ⟨Ad, cd, rfl⟩ := Kd.R_slice ho2; have HB1 := Aside0.mk hb1; have HO1 := Aside0.mk (Kd.R_reads' ho1); have HO2 := Aside0.mk (Kd.R_reads' ho2); clear ho1 ho2 hb1) | (go_at_call 39; refine (H2.out _ HB1.out).mono ?_; rintro e w2 ⟨vc, vd, rfl, ho1, ho2, hb2⟩; obtain ⟨Ae, ce, rfl⟩ := Kd.R_slice ho1; obtain ⟨Af, cf, rfl⟩ := Kd.R_slice ho2; have HB2 := Aside0.mk (below_step HB1.out hb2); have HP1 := Aside0.mk (Kd.R_reads' ho1); have HP2 := Aside0.mk (Kd.R_reads' ho2); have HO1' := Aside0.mk (Kd.C_below HO1.out.2.2 hb2); have HO2' := Aside0.mk (Kd.C_below HO2.out.2.2 hb2); clear ho1 ho2 hb2) | (go_at_call 29; refine (sameBytes_walk Ad Af cd cf file _ HO2'.out HO2.out.2.1 HP2.out.2.2 HP2.out.2.1 (by omega)).mono ?_; rintro e w3 ⟨rfl, hd⟩; have HB3 := Aside0.mk hd.below; clear hd))
  go_loopw [9] (fun v9 wr => ∃ i : Nat, v9 = .int .i64 i ∧ Aside0 (i ≤ told.length) ∧ Aside0 (Below w2.heap.size w2 wr)) (fun v9 _ => told.length - (intOf v9).toNat)
  case atStart => exact ⟨0, rfl, ⟨Nat.zero_le _⟩, HB3⟩
  case round =>
    obtain ⟨i, rfl, hi, hd⟩ := hrel
    have hil := hi.out
    by_cases hlt : i < told.length
    · obtain ⟨ad, A1, c1, rfl, x0, x1, l1, g1⟩ := at_T62 (Kd.C_below HO1'.out hd.out) (i : Int) (by omega) (by omega)
      obtain ⟨ad', A2, c2, rfl, y0, y1, l2, g2⟩ := at_T62 (Kd.C_below HP1.out.2.2 hd.out) (i : Int) (by omega) (by omega)
      rw [Int.toNat_natCast] at x0 x1 y0 y1
      obtain ⟨r, hr⟩ : ∃ r, r = rd_T62 told (i : Int) := ⟨_, rfl⟩
      rw [← hr] at x0 x1 y0 y1 l1 l2 g1 g2
      have hrl : r.f1.length ≤ 40 := by rw [hr, rd62 hlt]; exact HB1'.out _ (List.getElem_mem hlt)
      obtain ⟨k, rs⟩ := r
      simp only at x0 x1 y0 y1 l1 l2 g1 g2 hrl
      clear hr
      have G1 := Aside0.mk g1
      have G2 := Aside0.mk g2
      have hS : ∀ w' : World, Below wr.heap.size wr w' → (w'.cell? (ad.add (i * 2)) = some (.int .i64 k) ∧ w'.cell? ⟨(ad.add (i * 2)).block, (ad.add (i * 2)).off + 1, none⟩ = some (.slice A1 rs.length c1) ∧ w'.cell? (ad'.add (i * 2)) = some (.int .i64 k) ∧ w'.cell? ⟨(ad'.add (i * 2)).block, (ad'.add (i * 2)).off + 1, none⟩ = some (.slice A2 rs.length c2) ∧ Below wr.heap.size wr w') := fun w' h => ⟨(h.cell (World.block_lt_of_cell? wr _ x0)).trans x0, (h.cell (World.block_lt_of_cell? wr _ x1)).trans x1, (h.cell (World.block_lt_of_cell? wr _ y0)).trans y0, (h.cell (World.block_lt_of_cell? wr _ y1)).trans y1, h⟩
      clear g1 g2
      go_wp2
      go_region_held3 (fun w' => w'.cell? (ad.add (i * 2)) = some (.int .i64 k) ∧ w'.cell? ⟨(ad.add (i * 2)).block, (ad.add (i * 2)).off + 1, none⟩ = some (.slice A1 rs.length c1) ∧ w'.cell? (ad'.add (i * 2)) = some (.int .i64 k) ∧ w'.cell? ⟨(ad'.add (i * 2)).block, (ad'.add (i * 2)).off + 1, none⟩ = some (.slice A2 rs.length c2) ∧ Below wr.heap.size wr w') (first | assumption | exact hS _ (below_drew (Below.refl _ _))) (first | (go_at_call 24; refine (sameRows_walk A1 A2 c1 c2 rs _ (Kd.C_below G1.out (And.right (And.right (And.right (And.right (by assumption)))))) l1 (Kd.C_below G2.out (And.right (And.right (And.right (And.right (by assumption)))))) l2 (by omega)).mono ?_; rintro e w4 ⟨rfl, hb⟩; have hS1 := hS _ (below_step (And.right (And.right (And.right (And.right (by assumption))))) hb.below); clear hb))
      all_goals
        have hBW := Aside0.mk hS1.2.2.2.2
        go_wp2
        go_roundw
        case rel => exact ⟨i + 1, by simp, ⟨hlt⟩, ⟨below_step hd.out hBW.out⟩⟩
        case measure => simp [intOf]; omega
    · go_wp2
      go_ret
      exact ⟨rfl, below_step HB2.out hd.out⟩
end Go.Proofs.Ytnjidfgjldkkcaa.Pure
