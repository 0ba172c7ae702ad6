/- base.Of, walked: what it makes of bytes: letters, by a machine of three states. -/
import Derived.Test.YtmecnjhjlhpehaaQSb
import Derived.Test.YtmecnjhjlhpehaaPlTbl
import Derived.LoopTactic
import Derived.Lib.Hide
namespace Go.Proofs.Ytmecnjhjlhpehaa.Q
open Go.RowKit Go.Proofs.Ytmecnjhjlhpehaa.Bits Go.Proofs.Ytmecnjhjlhpehaa.Plain Go.Proofs.YtmecnjhjlhpehaaW.PrintWords Go.Proofs.YtmecnjhjlhpehaaW.PrintLast Go.Proofs.YtmecnjhjlhpehaaW.PrintMore
structure Es where
  out : List Nat
  m : Nat
  b : Nat
def estep (s : Es) (x : Nat) : Es := if s.m = 0 then ⟨s.out ++ [x / 4], 2, x % 4⟩ else if s.m = 2 then ⟨s.out ++ [(s.b * 256 + x) / 16], 4, (s.b * 256 + x) % 16⟩ else ⟨s.out ++ [(s.b * 256 + x) / 64, (s.b * 256 + x) % 64], 0, 0⟩
def cells (vs : List Nat) : List Value := (letters vs).map (Value.int .u8)
def runE (l : List Nat) : Es := l.foldl estep ⟨[], 0, 0⟩
theorem cells_length (vs : List Nat) : (cells vs).length = vs.length := by simp [cells, letters]
theorem cells_snoc (vs : List Nat) (v : Nat) : cells vs ++ [.int .u8 (bt tbl (v : Int))] = cells (vs ++ [v]) := by simp [cells, letters]
theorem mask_fact (x y : Nat) (i : Nat) (hi : i ≤ 40) (hx : x < 65536) (h : x % 2 ^ i = y) : bits .and .i64 (x : Int) (2 ^ i - 1) = (y : Int) := by
  rw [and_mask x i hi (by omega), h]
/-- What a machine's state may be behind n bytes. -/
def einv (s : Es) (n : Nat) : Prop := (s.m = 0 ∧ s.b = 0 ∨ s.m = 2 ∧ s.b < 4 ∨ s.m = 4 ∧ s.b < 16) ∧ s.out.length ≤ 2 * n
theorem einv_step {s : Es} {n x : Nat} (h : einv s n) : einv (estep s x) (n + 1) := by
  obtain ⟨o, m, b⟩ := s
  obtain ⟨h1, h2⟩ := h
  simp only at h1 h2
  rcases h1 with ⟨rfl, rfl⟩ | ⟨rfl, _⟩ | ⟨rfl, _⟩
  · exact ⟨by simp [estep]; omega, by simp [estep]; omega⟩
  · exact ⟨by simp [estep]; omega, by simp [estep]; omega⟩
  · exact ⟨by simp [estep], by simp [estep]; omega⟩
theorem einv_fold : ∀ (l : List Nat) (s : Es) (n : Nat), einv s n → einv (l.foldl estep s) (n + l.length)
  | [], s, n, h => h
  | x :: l, s, n, h => by
    have := einv_fold l (estep s x) (n + 1) (einv_step h)
    rw [List.length_cons, show n + (l.length + 1) = n + 1 + l.length by omega]
    exact this
theorem einv_run (l : List Nat) : einv (runE l) l.length := by
  have := einv_fold l ⟨[], 0, 0⟩ 0 ⟨.inl ⟨rfl, rfl⟩, by simp⟩
  rw [Nat.zero_add] at this
  exact this
/-- What is left over is written, too. -/
def finE (s : Es) : List Nat := if s.m = 0 then s.out else if s.m = 2 then s.out ++ [s.b * 16] else s.out ++ [s.b * 4]
theorem byteCells_letters (vs : List Nat) : Lib.byteCells ((letters vs).map fun n => UInt8.ofNat n.toNat) = cells vs := by
  unfold Lib.byteCells cells letters
  rw [List.map_map, List.map_map, List.map_map]
  refine List.map_congr_left fun v _ => ?_
  have := bt_range tbl (v : Int)
  simp
  omega
theorem or8 (b x B : Nat) (hx : x < 256) (hb : b < 64) (h : B = b * 256 + x) : bits .or .i64 ((b : Int) * 256) (x : Int) = (B : Int) := by
  rw [bits_join .i64 40 (by decide) (fun n h0 h1 => by rw [IntKind.wrap_i64]; omega) 8 _ _ (by omega) (by omega) (by omega) (by omega) (by omega) (by omega)]
  omega
theorem or8z (x : Nat) (hx : x < 256) : bits .or .i64 0 (x : Int) = (x : Int) := by
  have := or8 0 x x hx (by omega) (by omega)
  simpa using this
theorem div_mask (B k v : Nat) (hB : B < 65536) (h : B / k % 64 = v) : bits .and .i64 ((B : Int) / (k : Int)) 63 = (v : Int) := by
  have h1 : B / k ≤ B := Nat.div_le_self _ _
  have := mask_fact (B / k) v 6 (by omega) (by omega) h
  rw [Int.natCast_ediv] at this
  exact this
theorem built {B b : Nat} {out : List Nat} {w : World} {v : Nat} {p : Value} (h : (v : Int).toNat < tbl.size) (h1 : Lib.BuilderAt 37 5 B b p (cells out ++ [.int .u8 (((tbl[(v : Int).toNat]'h).toNat : Nat) : Int)]) w) (hp : p = .pointer (some ⟨b, 0, none⟩)) : Lib.IsBuilder 37 5 B b (cells (out ++ [v])) w := by
  subst hp
  rw [bt_at, cells_snoc] at h1
  exact .inr h1
set_option maxRecDepth 100000 in
set_option maxHeartbeats 8000000 in
theorem Of_walk (A : Option Addr) (c : Nat) (l : List Nat) (w : World) (hr : Kd.C (Kd.int .u8) w A (nat l).length (nat l)) (hc : (nat l).length ≤ c) (hl : l.length ≤ 1000000) (hb : ∀ x ∈ l, x < 256) :
    Calls Try.prog 10 #[.slice A (nat l).length c] w fun e w' => e = .returned (.string (strOfNums (letters (finE (runE l))))) ∧ Below w.heap.size w w' := by
  have HR := Aside0.mk hr
  have HC := Aside0.mk hc
  have HBy := Aside0.mk hb
  clear hr hc hb
  rw [nat_length] at *
  go_enter Try.func10, Try.ntmps10
  go_wp2
  have hfresh := Aside0.mk (Lib.fresh_isBuilder 37 5 w)
  go_loopw [4, 5, 10] (fun vb vm vi wr => ∃ (i : Nat), i ≤ l.length ∧ vi = .int .i64 i ∧ vb = .int .i64 ((runE (l.take i)).b : Int) ∧ vm = .int .i64 ((runE (l.take i)).m : Int) ∧ Aside0 (Lib.IsBuilder 37 5 w.heap.size w.heap.size (cells (runE (l.take i)).out) wr) ∧ Aside0 (Below w.heap.size w wr)) (fun _ _ vi _ => l.length - (intOf vi).toNat)
  case atStart => exact ⟨0, Nat.zero_le _, rfl, rfl, rfl, ⟨hfresh.out⟩, ⟨below_alloc (Below.refl _ _) _⟩⟩
  case round =>
    obtain ⟨i, hi, rfl, rfl, rfl, HI, HB⟩ := hrel
    have hinv := einv_run (l.take i)
    by_cases hlt : i < l.length
    · have hx256 := HBy.out _ (List.getElem_mem hlt)
      have hrun : Aside0 (runE (l.take (i + 1)) = estep (runE (l.take i)) l[i]) := ⟨by unfold runE; rw [List.take_succ_eq_append_getElem hlt, List.foldl_append]; rfl⟩
      obtain ⟨ad, rfl, hcell⟩ := Kd.at_int (Kd.C_below HR.out HB.out) (i : Int) (by omega) (by omega)
      have er : rd (nat l) (i : Int) = ((l[i] : Nat) : Int) := by
        rw [rd_at (by rw [nat_length]; exact hlt)]
        simp [nat]
      rw [er, Int.toNat_natCast] at hcell
      clear er
      generalize l[i] = x at *
      obtain ⟨hm, hlen⟩ := hinv
      rw [List.length_take] at hlen
      generalize runE (l.take i) = st at *
      obtain ⟨out, m, b⟩ := st
      simp only at hm hlen HI
      rcases hm with ⟨rfl, rfl⟩ | ⟨rfl, hb4⟩ | ⟨rfl, hb16⟩
      · obtain ⟨v, hv⟩ : ∃ v, Aside0 (x / 4 = v) := ⟨_, ⟨rfl⟩⟩
        obtain ⟨y, hy⟩ : ∃ y, Aside0 (x % 4 = y) := ⟨_, ⟨rfl⟩⟩
        have hv64 : v < 64 := by have := hv.out; omega
        have hor := or8z x hx256
        have hand : bits .and .i64 ((x : Int) / 4) 63 = (v : Int) := div_mask x 4 v (by omega) (by have := hv.out; omega)
        have hmask : bits .and .i64 (x : Int) 3 = (y : Int) := mask_fact x y 2 (by omega) (by omega) hy.out
        go_wp2_with fail
        refine wp_loop_rounds 2 ?_
        rw [rounds_succ]
        go_wp2_with (go_at_call 12; refine (WriteByte w.heap.size w.heap.size (cells out) _ _ HI.out (by rw [cells_length]; omega) (by have := HB.out.size; omega)).mono ?_; rintro e w1 ⟨rfl, h1, hb1⟩)
        have hI1 := Aside0.mk (built (v := v) (by show v < 64; omega) h1 rfl)
        have hB1 := Aside0.mk (below_weaken HB.out (Nat.le_refl _) hb1)
        clear h1 hb1 HI HB
        rw [rounds_succ]
        go_wp2_with fail
        go_roundw
        case rel =>
          refine ⟨i + 1, by omega, by go_num, ?_⟩
          rw [hrun.out]
          exact ⟨by simp [estep, hy.out], by simp [estep], ⟨by simpa [estep, hv.out] using hI1.out⟩, hB1⟩
        case measure => simp [intOf]; omega
      · obtain ⟨B, hB⟩ : ∃ B, Aside0 (B = b * 256 + x) := ⟨_, ⟨rfl⟩⟩
        have hBl : B < 1024 := by have := hB.out; omega
        obtain ⟨v, hv⟩ : ∃ v, Aside0 (B / 16 = v) := ⟨_, ⟨rfl⟩⟩
        obtain ⟨y, hy⟩ : ∃ y, Aside0 (B % 16 = y) := ⟨_, ⟨rfl⟩⟩
        have hv64 : v < 64 := by have := hv.out; omega
        have hor := or8 b x B hx256 (by omega) hB.out
        have hand : bits .and .i64 ((B : Int) / 16) 63 = (v : Int) := div_mask B 16 v (by omega) (by have := hv.out; omega)
        have hmask : bits .and .i64 (B : Int) 15 = (y : Int) := mask_fact B y 4 (by omega) (by omega) hy.out
        go_wp2_with fail
        refine wp_loop_rounds 2 ?_
        rw [rounds_succ]
        go_wp2_with (go_at_call 12; refine (WriteByte w.heap.size w.heap.size (cells out) _ _ HI.out (by rw [cells_length]; omega) (by have := HB.out.size; omega)).mono ?_; rintro e w1 ⟨rfl, h1, hb1⟩)
        have hI1 := Aside0.mk (built (v := v) (by show v < 64; omega) h1 rfl)
        have hB1 := Aside0.mk (below_weaken HB.out (Nat.le_refl _) hb1)
        clear h1 hb1 HI HB
        rw [rounds_succ]
        go_wp2_with fail
        go_roundw
        case rel =>
          refine ⟨i + 1, by omega, by go_num, ?_⟩
          rw [hrun.out]
          exact ⟨by simp [estep, ← hB.out, hy.out], by simp [estep], ⟨by simpa [estep, ← hB.out, hv.out] using hI1.out⟩, hB1⟩
        case measure => simp [intOf]; omega
      · obtain ⟨B, hB⟩ : ∃ B, Aside0 (B = b * 256 + x) := ⟨_, ⟨rfl⟩⟩
        have hBl : B < 4096 := by have := hB.out; omega
        obtain ⟨v, hv⟩ : ∃ v, Aside0 (B / 64 = v) := ⟨_, ⟨rfl⟩⟩
        obtain ⟨y, hy⟩ : ∃ y, Aside0 (B % 64 = y) := ⟨_, ⟨rfl⟩⟩
        have hv64 : v < 64 := by have := hv.out; omega
        have hy64 : y < 64 := by have := hy.out; omega
        have hor := or8 b x B hx256 (by omega) hB.out
        have hand : bits .and .i64 ((B : Int) / 64) 63 = (v : Int) := div_mask B 64 v (by omega) (by have := hv.out; omega)
        have hand2 : bits .and .i64 (B : Int) 63 = (y : Int) := mask_fact B y 6 (by omega) (by omega) hy.out
        have hmask : bits .and .i64 (B : Int) 0 = 0 := mask_fact B 0 0 (by omega) (by omega) (Nat.mod_one B)
        go_wp2_with fail
        refine wp_loop_rounds 3 ?_
        rw [rounds_succ]
        go_wp2_with (go_at_call 12; refine (WriteByte w.heap.size w.heap.size (cells out) _ _ HI.out (by rw [cells_length]; omega) (by have := HB.out.size; omega)).mono ?_; rintro e w1 ⟨rfl, h1, hb1⟩)
        have hI1 := Aside0.mk (built (v := v) (by show v < 64; omega) h1 rfl)
        have hB1 := Aside0.mk (below_weaken HB.out (Nat.le_refl _) hb1)
        clear h1 hb1 HI HB
        rw [rounds_succ]
        go_wp2_with (go_at_call 12; refine (WriteByte w.heap.size w.heap.size (cells (out ++ [v])) _ _ hI1.out (by rw [cells_length]; simp; omega) (by have := hB1.out.size; omega)).mono ?_; rintro e w2 ⟨rfl, h2, hb2⟩)
        have hI2 := Aside0.mk (built (v := y) (by show y < 64; omega) h2 rfl)
        have hB2 := Aside0.mk (below_weaken hB1.out (Nat.le_refl _) hb2)
        clear h2 hb2 hI1 hB1
        rw [rounds_succ]
        go_wp2_with fail
        go_roundw
        case rel =>
          refine ⟨i + 1, by omega, by go_num, ?_⟩
          rw [hrun.out]
          exact ⟨by simp [estep], by simp [estep], ⟨by simpa [estep, ← hB.out, hv.out, hy.out] using hI2.out⟩, hB2⟩
        case measure => simp [intOf]; omega
    · obtain rfl : i = l.length := by omega
      rw [List.take_length] at *
      obtain ⟨hm, hlen⟩ := hinv
      obtain ⟨st, hst⟩ : ∃ st, Aside0 (runE l = st) := ⟨runE l, ⟨rfl⟩⟩
      rw [hst.out] at hm hlen HI ⊢
      obtain ⟨out, m, b⟩ := st
      simp only at hm hlen HI
      rcases hm with ⟨rfl, rfl⟩ | ⟨rfl, hb4⟩ | ⟨rfl, hb16⟩
      · go_wp2_with (go_at_call 13; refine (Try.Builder_String_any w.heap.size w.heap.size ((letters out).map fun n => UInt8.ofNat n.toNat) _ (by rw [byteCells_letters]; exact HI.out) (by have := HB.out.size; omega)).mono ?_; rintro e w1 ⟨rfl, hb1⟩)
        go_ret
        refine ⟨?_, below_weaken HB.out (Nat.le_refl _) hb1⟩
        rw [hst.out]
        rfl
      · obtain ⟨v, hv⟩ : ∃ v, Aside0 (b * 16 = v) := ⟨_, ⟨rfl⟩⟩
        have hv64 : v < 64 := by have := hv.out; omega
        have hand : bits .and .i64 ((b : Int) * 16) 63 = (v : Int) := by
          have := mask_fact (b * 16) v 6 (by omega) (by omega) (by have := hv.out; omega)
          simpa using this
        go_wp2_with (go_at_call 12; refine (WriteByte w.heap.size w.heap.size (cells out) _ _ HI.out (by rw [cells_length]; omega) (by have := HB.out.size; omega)).mono ?_; rintro e w1 ⟨rfl, h1, hb1⟩)
        have hI1 := Aside0.mk (built (v := v) (by show v < 64; omega) h1 rfl)
        have hB1 := Aside0.mk (below_weaken HB.out (Nat.le_refl _) hb1)
        clear h1 hb1 HI HB
        go_wp2_with (go_at_call 13; refine (Try.Builder_String_any w.heap.size w.heap.size ((letters (out ++ [v])).map fun n => UInt8.ofNat n.toNat) _ (by rw [byteCells_letters]; exact hI1.out) (by have := hB1.out.size; omega)).mono ?_; rintro e w2 ⟨rfl, hb2⟩)
        go_ret
        refine ⟨?_, below_weaken hB1.out (Nat.le_refl _) hb2⟩
        have e : finE ⟨out, 2, b⟩ = out ++ [v] := by simp [finE, hv.out]
        rw [hst.out, e]
        rfl
      · obtain ⟨v, hv⟩ : ∃ v, Aside0 (b * 4 = v) := ⟨_, ⟨rfl⟩⟩
        have hv64 : v < 64 := by have := hv.out; omega
        have hand : bits .and .i64 ((b : Int) * 4) 63 = (v : Int) := by
          have := mask_fact (b * 4) v 6 (by omega) (by omega) (by have := hv.out; omega)
          simpa using this
        go_wp2_with (go_at_call 12; refine (WriteByte w.heap.size w.heap.size (cells out) _ _ HI.out (by rw [cells_length]; omega) (by have := HB.out.size; omega)).mono ?_; rintro e w1 ⟨rfl, h1, hb1⟩)
        have hI1 := Aside0.mk (built (v := v) (by show v < 64; omega) h1 rfl)
        have hB1 := Aside0.mk (below_weaken HB.out (Nat.le_refl _) hb1)
        clear h1 hb1 HI HB
        go_wp2_with (go_at_call 13; refine (Try.Builder_String_any w.heap.size w.heap.size ((letters (out ++ [v])).map fun n => UInt8.ofNat n.toNat) _ (by rw [byteCells_letters]; exact hI1.out) (by have := hB1.out.size; omega)).mono ?_; rintro e w2 ⟨rfl, hb2⟩)
        go_ret
        refine ⟨?_, below_weaken hB1.out (Nat.le_refl _) hb2⟩
        have e : finE ⟨out, 4, b⟩ = out ++ [v] := by simp [finE, hv.out]
        rw [hst.out, e]
        rfl
def base_Of.f (l : List Int) : Option ByteArray := if l.length ≤ 1000000 ∧ (∀ x ∈ l, 0 ≤ x ∧ x < 256) then some (strOfNums (letters (finE (runE (l.map Int.toNat))))) else none
theorem base_Of.calls (A0 : Option Addr) (c0 : Nat) (l0 : List Int) (r : ByteArray) (w : World) (hr0 : Kd.C (Kd.int .u8) w A0 l0.length l0) (hc0 : l0.length ≤ c0) (h : base_Of.f l0 = some r) :
    Calls Try.prog 10 #[.slice A0 l0.length c0] w fun e w' => e = .returned (.string r) ∧ Below w.heap.size w w' := by
  unfold base_Of.f at h
  split at h
  · rename_i hh
    obtain rfl := Option.some.inj h
    have e : nat (l0.map Int.toNat) = l0 := by
      unfold nat
      rw [List.map_map]
      refine (List.map_congr_left (g := id) fun x hx => ?_).trans (List.map_id _)
      have := hh.2 x hx
      show ((x.toNat : Nat) : Int) = x
      omega
    have := Of_walk A0 c0 (l0.map Int.toNat) w (by rw [e]; exact hr0) (by rw [e]; exact hc0) (by simpa using hh.1) (by
      intro x hx
      obtain ⟨y, hy, rfl⟩ := List.mem_map.1 hx
      have := hh.2 y hy
      omega)
    rw [e] at this
    exact this
  · cases h
end Go.Proofs.Ytmecnjhjlhpehaa.Q
