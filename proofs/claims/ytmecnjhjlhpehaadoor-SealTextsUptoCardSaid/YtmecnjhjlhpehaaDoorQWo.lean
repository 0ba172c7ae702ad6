/- seal.without, walked: the value without the two keys. -/
import Derived.Test.YtmecnjhjlhpehaaDoorQTx
import Derived.Test.YtmecnjhjlhpehaaDoorQWi
namespace Go.Proofs.YtmecnjhjlhpehaaDoor.Q
open Go.RowKit Go.Proofs.YtmecnjhjlhpehaaDoor.Plain Go.Proofs.YtmecnjhjlhpehaaDoorW.PrintWords Go.Proofs.YtmecnjhjlhpehaaDoorW.PrintLast Go.Proofs.YtmecnjhjlhpehaaDoorW.PrintMore
set_option linter.unusedVariables false
set_option linter.unusedSimpArgs false
/-- The two keys that are left out. -/
def sig : ByteArray := ⟨#[115, 105, 103, 110, 97, 116, 117, 114, 101, 115]⟩
def uns : ByteArray := ⟨#[117, 110, 115, 105, 103, 110, 101, 100]⟩
def outB (k : ByteArray) : Bool := Lib.containsS [sig, uns] k
/-- What is kept of the first n. -/
def keptL (x : S25) (n : Nat) : List (ByteArray × S25) := ((x.f3.zip x.f4).take n).filter fun p => !(outB p.1)
def withF (x : S25) : S25 := ⟨x.f0, 0, ⟨#[]⟩, (keptL x x.f3.length).map (·.1), (keptL x x.f3.length).map (·.2)⟩
theorem kept_zero (x : S25) : keptL x 0 = [] := rfl
theorem kept_succ (x : S25) (i : Nat) (h3 : i < x.f3.length) (h4 : i < x.f4.length) : keptL x (i + 1) = if outB x.f3[i] = true then keptL x i else keptL x i ++ [(x.f3[i], x.f4[i])] := by
  have hz : i < (x.f3.zip x.f4).length := by rw [List.length_zip]; omega
  have e : (x.f3.zip x.f4)[i] = (x.f3[i], x.f4[i]) := List.getElem_zip
  unfold keptL
  rw [List.take_succ_eq_append_getElem hz, List.filter_append, e]
  by_cases hb : outB x.f3[i] = true
  · rw [if_pos hb]; simp [hb]
  · rw [if_neg hb]; simp [hb]
theorem kept_len (x : S25) (n : Nat) : (keptL x n).length ≤ n := by
  unfold keptL
  exact Nat.le_trans (List.length_filter_le _ _) (List.length_take_le _ _)
/-- Rows of cells of the kept parts: each reads as its part. -/
def RowsOf (w : World) (ps : List S25) (css : List (List Value)) : Prop := css.length = ps.length ∧ ∀ (j : Nat) p c, ps[j]? = some p → css[j]? = some c → k25.K w p c ∧ c.length = 5
theorem rowsOf_nil (w : World) : RowsOf w [] [] := ⟨rfl, fun j p c h => by simp at h⟩
theorem rowsOf_snoc {w : World} {ps : List S25} {css : List (List Value)} {p : S25} {c : List Value} (h : RowsOf w ps css) (hk : k25.K w p c) (hl : c.length = 5) : RowsOf w (ps ++ [p]) (css ++ [c]) := by
  refine ⟨by simp [h.1], fun j q e hj he => ?_⟩
  rcases Nat.lt_or_ge j ps.length with hlt | hge
  · rw [List.getElem?_append_left hlt] at hj
    rw [List.getElem?_append_left (by rw [h.1]; exact hlt)] at he
    exact h.2 j q e hj he
  · have := (List.getElem?_eq_some_iff.1 hj).1
    rw [List.length_append, List.length_singleton] at this
    obtain rfl : j = ps.length := by omega
    rw [List.getElem?_append_right (Nat.le_refl _), Nat.sub_self] at hj
    rw [List.getElem?_append_right (Nat.le_of_eq h.1), h.1, Nat.sub_self] at he
    simp only [List.getElem?_cons_zero, Option.some.injEq] at hj he
    subst hj he
    exact ⟨hk, hl⟩
theorem size25 : (Tryd.prog.info? 25).map (·.size) = some 5 := by kernel_rfl
theorem own_slice {w : World} {B e s n : Nat} {v : Value} {xs : List Value} (h : w.ownsRow B e s v n xs) : ∃ A c, v = .slice A n c := by
  obtain ⟨_, ⟨h, rfl⟩ | ⟨g, cap, cur, hv, _⟩⟩ := h
  · exact ⟨none, 0, h⟩
  · exact ⟨_, _, hv⟩
theorem own_le {w : World} {B e s n c : Nat} {A : Option Addr} {xs : List Value} (h : w.ownsRow B e s (.slice A n c) n xs) : n ≤ c := by
  obtain ⟨_, ⟨h, rfl⟩ | ⟨g, cap, cur, hv, _, _, hc, _⟩⟩ := h
  · exact Nat.zero_le _
  · cases hv; exact hc
/-- The cells of a row of one's own. -/
theorem own_at {w : World} {B e s n c : Nat} {A : Option Addr} {xs : List Value} (h : w.ownsRow B e s (.slice A n c) n xs) (hn : 0 < n) : ∃ ad, A = some ad ∧ ∀ (j : Nat) u, xs[j]? = some u → w.cell? (ad.add j) = some u := by
  obtain ⟨hl, ⟨_, h0⟩ | ⟨g, cap, cur, hv, _, hb, _, _, _, ht⟩⟩ := h
  · omega
  cases hv
  refine ⟨_, rfl, fun j u hu => ?_⟩
  have e : (⟨g, 0, none⟩ : Addr).add j = ⟨g, j, none⟩ := by
    unfold Addr.add
    split
    · rename_i h0; subst h0; rfl
    · simp
  rw [e, blk_cell hb j, ← Array.getElem?_toList]
  have hj : j < n * s := by have := (List.getElem?_eq_some_iff.1 hu).1; omega
  rw [← ht, List.getElem?_take_of_lt hj] at hu
  exact hu
theorem own_len {w : World} {B e n c : Nat} {A : Option Addr} {xs : List Value} (h : w.ownsRow B e 1 (.slice A n c) n xs) (hn : n ≤ maxLen) : n = xs.length := by have := h.1; omega
theorem own_max {w : World} {B e s n : Nat} {v : Value} {xs : List Value} (h : w.ownsRow B e s v n xs) : n ≤ 9223372036854775807 := by
  obtain ⟨_, ⟨_, rfl⟩ | ⟨g, cap, cur, _, _, _, hc, hm, _⟩⟩ := h
  · omega
  · unfold maxLen at hm; omega
theorem own_str {w : World} {B c : Nat} {A : Option Addr} {l : List (ByteArray × S25)} (h : w.ownsRow B 9 1 (.slice A l.length c) l.length ((l.map (·.1)).map Value.string)) : Kd.C Kd.string w A l.length (l.map (·.1)) := by
  refine ⟨List.length_map .., own_max h, fun hn => ?_⟩
  obtain ⟨ad, e, hc⟩ := own_at h (by simpa using hn)
  refine ⟨ad, e, fun j p hj => ⟨[.string p], rfl, rfl, fun q u hu => ?_⟩⟩
  match q, hu with
  | 0, hu =>
    simp only [List.getElem?_cons_zero, Option.some.injEq] at hu
    subst hu
    have := hc j (.string p) (by rw [List.getElem?_map, hj]; rfl)
    show w.cell? (ad.add (j * 1 + 0)) = _
    rw [Nat.mul_one, Nat.add_zero]
    exact this
theorem flat_at : ∀ (css : List (List Value)) (j : Nat) (c : List Value) (q : Nat) (u : Value), (∀ d ∈ css, d.length = 5) → css[j]? = some c → c[q]? = some u → css.flatten[j * 5 + q]? = some u
  | [], j, c, q, u, _, hj, _ => by simp at hj
  | d :: css, 0, c, q, u, h5, hj, hq => by
    simp only [List.getElem?_cons_zero, Option.some.injEq] at hj
    subst hj
    rw [List.flatten_cons, Nat.zero_mul, Nat.zero_add, List.getElem?_append_left (List.getElem?_eq_some_iff.1 hq).1]
    exact hq
  | d :: css, j + 1, c, q, u, h5, hj, hq => by
    have hd := h5 d (List.mem_cons_self ..)
    rw [List.flatten_cons, List.getElem?_append_right (by rw [hd]; omega), hd, show (j + 1) * 5 + q - 5 = j * 5 + q from by omega]
    exact flat_at css j c q u (fun e he => h5 e (List.mem_cons_of_mem _ he)) (by simpa using hj) hq
theorem own_val {w0 w : World} {B n c : Nat} {A : Option Addr} {ps : List S25} {css : List (List Value)} (hr : RowsOf w0 ps css) (hb : Below w0.heap.size w0 w) (h : w.ownsRow B 25 5 (.slice A n c) n css.flatten) : Kd.C k25 w A n ps := by
  have h5 : ∀ d ∈ css, d.length = 5 := fun d hd => by
    obtain ⟨j, hj⟩ := List.mem_iff_getElem?.1 hd
    have hlt := (List.getElem?_eq_some_iff.1 hj).1
    have hlt' : j < ps.length := by rw [← hr.1]; exact hlt
    exact (hr.2 j ps[j] d (List.getElem?_eq_getElem hlt') hj).2
  have hlen : css.flatten.length = css.length * 5 := by
    clear hr h
    induction css with
    | nil => rfl
    | cons d css ih =>
      rw [List.flatten_cons, List.length_append, h5 d (List.mem_cons_self ..), ih (fun e he => h5 e (List.mem_cons_of_mem _ he)), List.length_cons]
      omega
  have hn : n = ps.length := by have h1 := h.1; have h2 := hr.1; omega
  refine ⟨hn.symm, own_max h, fun h0 => ?_⟩
  obtain ⟨ad, e, hc⟩ := own_at h h0
  refine ⟨ad, e, fun j p hj => ?_⟩
  have hlt : j < css.length := by rw [hr.1]; exact (List.getElem?_eq_some_iff.1 hj).1
  obtain ⟨hK, hl⟩ := hr.2 j p css[j] hj (List.getElem?_eq_getElem hlt)
  exact ⟨css[j], hl, k25_heap.K hb.block hK, fun q u hq => hc _ u (flat_at css j _ q u h5 (List.getElem?_eq_getElem hlt) hq)⟩
theorem news_blk {w : World} {g : Nat} {t : TypeId} {cs : List Value} (h : w.heap[g]? = some (.cells cs.toArray t (0, 0))) : ∀ (j : Nat) u, cs[j]? = some u → w.cell? ((⟨g, 0, none⟩ : Addr).add j) = some u := fun j u hu => by
  have e : (⟨g, 0, none⟩ : Addr).add j = ⟨g, j, none⟩ := by
    unfold Addr.add
    split
    · rename_i h0; subst h0; rfl
    · simp
  rw [e, blk_cell h j]
  simpa using hu
theorem own_form {w : World} {B e s n : Nat} {v : Value} {xs : List Value} (h : w.ownsRow B e s v n xs) (hn : n ≠ 0) : ∃ g c, v = .slice (some ⟨g, 0, none⟩) n c := by
  obtain ⟨_, ⟨_, h0⟩ | ⟨g, cap, cur, hv, _⟩⟩ := h
  · exact absurd h0 hn
  · exact ⟨g, cap, hv⟩
theorem contains_walk (K : ByteArray) (b : Bool) (h : outB K = b) (kb : Nat) (w : World) (hk : w.heap[kb]? = some (.cells #[.string sig, .string uns] 9 (0, 0))) :
    Calls Tryd.prog 26 #[.slice (some ⟨kb, 0, none⟩) 2 2, .string K] w fun e w' => e = .returned (.bool b) ∧ w' = w := by
  have hc := Tryd.slices_Contains_string kb 0 2 2 [sig, uns] K w (by decide) (by decide) (fun j hj => by
    match j, hj with
    | 0, _ => exact (cell_of_row w kb 0 _ 9 (0, 0) hk).trans rfl
    | 1, _ => exact (cell_of_row w kb 1 _ 9 (0, 0) hk).trans rfl)
  rw [show [sig, uns].take 2 = [sig, uns] from rfl, show Lib.containsS [sig, uns] K = b from h] at hc
  exact hc
/-- What seal.without hands back. -/
def WithPost (x : S25) (w : World) (e : Ending) (w' : World) : Prop := ∃ B3 b3 B4 b4, e = .returned (.agg #[.int .i64 x.f0, .int .i64 0, .string ⟨#[]⟩, .slice B3 (withF x).f3.length b3, .slice B4 (withF x).f4.length b4]) ∧ InAt w' (withF x) B3 b3 B4 b4 ∧ Below w.heap.size w w'
set_option maxRecDepth 100000 in
set_option maxHeartbeats 4000000 in
theorem without_walk (x : S25) (hl : x.f3.length = x.f4.length) (hb : x.f4.length ≤ 100000000) (A3 : Option Addr) (c3 : Nat) (A4 : Option Addr) (c4 : Nat) (kb : Nat) (w : World) (h : InAt w x A3 c3 A4 c4) (hk : w.heap[kb]? = some (.cells #[.string sig, .string uns] 9 (0, 0))) :
    Calls Tryd.prog 18 #[.agg #[.int .i64 x.f0, .int .i64 x.f1, .string x.f2, .slice A3 x.f3.length c3, .slice A4 x.f4.length c4], .slice (some ⟨kb, 0, none⟩) 2 2] w (WithPost x w) := by
  obtain ⟨i9, hi9, hz0, hz1, hz2⟩ := info_parts info9
  obtain ⟨i25, hi25, hy0, hy1, hy2⟩ := info_parts info25
  have HI := Aside0.mk h
  have HK := Aside0.mk hk
  have HB := Aside0.mk (Below.refl w.heap.size w)
  have hlA := Aside0.mk hl
  have hbA := Aside0.mk hb
  clear h hk hl hb
  go_enter Tryd.func18, Tryd.ntmps18
  go_wp2_with (first | ((with_reducible refine gate_dst (N := 2) rfl ?_); refine box_event ?hg (N := 2) ?hd (cs := #[.int .i64 x.f0, .int .i64 x.f1, .string x.f2, .slice A3 x.f3.length c3, .slice A4 x.f4.length c4]) (t := 25) ?hr ?_; (case hd => rfl); (case hg => rfl); (case hr => first | (go_simp; done) | (go_simp; rfl)); intro g2 hg w2 hbox hb2; have HB2 := Aside0.mk (below_step HB.out hb2); have BK := Aside0.mk hbox; have GE := Aside0.mk ((by rw [hg]; exact Nat.le_refl _) : w.heap.size ≤ g2); clear hb2 hbox hg) | ((with_reducible refine gate_dst (N := 4) rfl ?_); refine box_event ?hg (N := 4) ?hd (cs := #[.int .i64 0, .int .i64 0, .string (⟨#[]⟩ : ByteArray), .slice none 0 0, .slice none 0 0]) (t := 25) ?hr ?_; (case hd => rfl); (case hg => rfl); (case hr => first | (go_simp; done) | (go_simp; rfl)); intro g4 hg w4 hbox hb4; have HB4 := Aside0.mk (below_step HB2.out hb4); have BK4 := Aside0.mk hbox; have GE4 := Aside0.mk ((by rw [hg]; exact below_size HB2.out) : w.heap.size ≤ g4); have BK2 := Aside0.mk (blk_below BK.out hb4); have N24 := Aside0.mk ((by rw [hg]; exact Nat.ne_of_lt (blk_lt BK.out)) : g2 ≠ g4); have GL4 := Aside0.mk (blk_lt hbox); have z0 : w4.cell? ⟨g2, 0, none⟩ = some (.int .i64 x.f0) := (blk_cell BK2.out 0).trans rfl; have z3 : w4.cell? ⟨g2, 3, none⟩ = some (.slice A3 x.f3.length c3) := (blk_cell BK2.out 3).trans rfl; have ne2 := World.new_ne w4 ⟨g2, 3, none⟩ z3; have ne3 : g2 ≠ w4.heap.size := Nat.ne_of_lt (blk_lt BK2.out); have ne4 : w4.heap.size ≠ g2 := fun e => ne3 e.symm; have lt2 : g2 < w4.heap.size := blk_lt BK2.out; clear hb4 hbox hg))
  obtain ⟨W5, hW5⟩ : ∃ W5, W5 = w4.alloc (.cells #[.int .i64 x.f0, .int .i64 0, .string ⟨#[]⟩, .slice none 0 0, .slice none 0 0] 25 (0, 0)) := ⟨_, rfl⟩
  have HB5 := Aside0.mk (hW5 ▸ below_alloc HB4.out _ : Below w.heap.size w W5)
  have K2 := Aside0.mk (hW5 ▸ blk_alloc BK2.out _ : W5.heap[g2]? = some (.cells #[.int .i64 x.f0, .int .i64 x.f1, .string x.f2, .slice A3 x.f3.length c3, .slice A4 x.f4.length c4] 25 (0, 0)))
  have K4 := Aside0.mk (hW5 ▸ blk_alloc BK4.out _ : W5.heap[g4]? = some (.cells #[.int .i64 0, .int .i64 0, .string (⟨#[]⟩ : ByteArray), .slice none 0 0, .slice none 0 0] 25 (0, 0)))
  have K5 := Aside0.mk (hW5 ▸ blk_new w4 _ : W5.heap[w4.heap.size]? = some (.cells #[.int .i64 x.f0, .int .i64 0, .string (⟨#[]⟩ : ByteArray), .slice none 0 0, .slice none 0 0] 25 (0, 0)))
  obtain ⟨g5, hg5⟩ : ∃ g5, g5 = w4.heap.size := ⟨_, rfl⟩
  have L25 := Aside0.mk (hg5 ▸ blk_lt BK2.out : g2 < g5)
  have L45 := Aside0.mk (hg5 ▸ GL4.out : g4 < g5)
  have L5 := Aside0.mk (hg5 ▸ below_size HB4.out : w.heap.size ≤ g5)
  rw [← hg5] at K5
  rw [← hW5, ← hg5]
  clear hW5 hg5 z0 z3 ne2 ne3 ne4 lt2
  go_loopw [14] (fun v14 wr => ∃ (i : Nat) (u3 u4 : Value) (css : List (List Value)), v14 = .int .i64 i ∧ Aside0 (i ≤ x.f3.length) ∧ Aside0 (RowsOf w ((keptL x i).map (·.2)) css) ∧ Aside0 (wr.ownsRow (g5 + 1) 9 1 u3 (keptL x i).length (((keptL x i).map (·.1)).map Value.string)) ∧ Aside0 (wr.ownsRow (g5 + 1) 25 5 u4 (keptL x i).length css.flatten) ∧ Aside0 (wr.heap[g2]? = some (.cells #[.int .i64 x.f0, .int .i64 x.f1, .string x.f2, .slice A3 x.f3.length c3, .slice A4 x.f4.length c4] 25 (0, 0))) ∧ Aside0 (wr.heap[g4]? = some (.cells #[.int .i64 0, .int .i64 0, .string (⟨#[]⟩ : ByteArray), .slice none 0 0, .slice none 0 0] 25 (0, 0))) ∧ Aside0 (wr.heap[g5]? = some (.cells #[.int .i64 x.f0, .int .i64 0, .string (⟨#[]⟩ : ByteArray), u3, u4] 25 (0, 0))) ∧ Aside0 (Below w.heap.size w wr)) (fun v14 _ => x.f3.length - (intOf v14).toNat)
  case atStart => exact ⟨0, .slice none 0 0, .slice none 0 0, [], rfl, ⟨Nat.zero_le _⟩, ⟨rowsOf_nil w⟩, ⟨World.ownsRow_nil _ _ _ _⟩, ⟨World.ownsRow_nil _ _ _ _⟩, K2, K4, K5, HB5⟩
  case round =>
    obtain ⟨i, u3, u4, css, rfl, hi, HR, H3, H4, J2, J4, J5, HBr⟩ := hrel
    have hil := hi.out
    have z3 : wr.cell? ⟨g2, 3, none⟩ = some (.slice A3 x.f3.length c3) := (blk_cell J2.out 3).trans rfl
    by_cases hlt : i < x.f3.length
    · have p1 : (0 : Int) ≤ (i : Int) := Int.natCast_nonneg i
      have q1 : (i : Int) < (x.f3.length : Int) := Int.ofNat_lt.2 hlt
      have hlt4 : i < x.f4.length := hlA.out ▸ hlt
      have hln : x.f3.length ≤ 100000000 := by rw [hlA.out]; exact hbA.out
      have hi1 : IntKind.i64.wrap ((i : Int) + 1) = (i : Int) + 1 := by unfold IntKind.wrap; simp [IntKind.signed, IntKind.bits]; omega
      obtain ⟨ad3, rfl, hxk⟩ := Kd.at_string HI.out.2.1 (i : Int) p1 q1
      rw [rdS, getD_str hlt, Int.toNat_natCast] at hxk
      obtain ⟨K, hK⟩ : ∃ K, K = x.f3[i] := ⟨_, rfl⟩
      rw [← hK] at hxk
      have hxw := (HBr.out.cell (World.block_lt_of_cell? w _ hxk)).trans hxk
      have hkA := Aside0.mk hK
      have HLt := Aside0.mk hlt4
      have HKr : Aside0 (wr.heap[kb]? = some (.cells #[.string sig, .string uns] 9 (0, 0))) := ⟨(HBr.out.block kb (blk_lt HK.out)).trans HK.out⟩
      clear hK hlt4
      by_cases ho : outB K = true
      · have hkp : Aside0 (keptL x (i + 1) = keptL x i) := ⟨by rw [kept_succ x i hlt HLt.out, if_pos (by rw [← hkA.out]; exact ho)]⟩
        go_wp2_with (go_at_call 26; refine (contains_walk K true ho kb _ HKr.out).mono ?_; rintro e w6 ⟨rfl, rfl⟩)
        go_roundw
        case rel => exact ⟨i + 1, u3, u4, css, by simp, ⟨hlt⟩, ⟨by rw [hkp.out]; exact HR.out⟩, ⟨by rw [hkp.out]; exact H3.out⟩, ⟨by rw [hkp.out]; exact H4.out⟩, J2, J4, J5, HBr⟩
        case measure => simp [intOf]; omega
      · have hof : outB K = false := by cases h : outB K with | true => exact absurd h ho | false => rfl
        have hkp : Aside0 (keptL x (i + 1) = keptL x i ++ [(K, x.f4[i]'HLt.out)]) := ⟨by rw [kept_succ x i hlt HLt.out, if_neg (by rw [← hkA.out]; exact ho), hkA.out]⟩
        have q4 : (i : Int) < (x.f4.length : Int) := Int.ofNat_lt.2 HLt.out
        obtain ⟨ad, B3, b3, B4, b4, rfl, hx0, hx1, hx2, hx3, hx4, hl3, hi3, hl4, hi4⟩ := at_T25 HI.out.2.2.2 (i : Int) p1 q4
        rw [rd25 HLt.out] at hx0 hx1 hx2 hx3 hx4 hl3 hi3 hl4 hi4
        rw [Int.toNat_natCast] at hx0 hx1 hx2 hx3 hx4
        obtain ⟨P, hP⟩ : ∃ P, P = x.f4[i]'HLt.out := ⟨_, rfl⟩
        rw [← hP] at hx0 hx1 hx2 hx3 hx4 hl3 hi3 hl4 hi4 hkp
        have HP := Aside0.mk (k25_mk w P hl3 hi3 hl4 hi4)
        clear hP hi3 hi4 hl3 hl4 ho
        obtain ⟨m, hm⟩ : ∃ m, m = (keptL x i).length := ⟨_, rfl⟩
        obtain ⟨ks, hks⟩ : ∃ ks, ks = ((keptL x i).map (·.1)).map Value.string := ⟨_, rfl⟩
        obtain ⟨cs, hcs⟩ : ∃ cs, cs = css.flatten := ⟨_, rfl⟩
        rw [← hm, ← hks] at H3
        rw [← hm, ← hcs] at H4
        have hmA := Aside0.mk hm
        have hksA := Aside0.mk hks
        have hcsA := Aside0.mk hcs
        have hml : m ≤ 100000000 := by rw [hm]; exact Nat.le_trans (kept_len x i) (by omega)
        clear hm hks hcs
        have HQ : Aside0 (WInv ⟨w, g2, g4, g5, #[.int .i64 x.f0, .int .i64 x.f1, .string x.f2, .slice (some ad3) x.f3.length c3, .slice (some ad) x.f4.length c4], #[.int .i64 0, .int .i64 0, .string (⟨#[]⟩ : ByteArray), .slice none 0 0, .slice none 0 0], x.f0, u3, u4, m, ks, cs, K, [.int .i64 P.f0, .int .i64 P.f1, .string P.f2, .slice B3 P.f3.length b3, .slice B4 P.f4.length b4]⟩ false false false false false false undef undef undef undef wr) := ⟨⟨HBr.out, J2.out, J4.out, J5.out, fun _ => H3.out, (fun e => by cases e), fun _ => H4.out, (fun e => by cases e), (fun e => by cases e), (fun e => by cases e)⟩⟩
        go_wp2_with (go_at_call 26; refine (contains_walk K false hof kb _ HKr.out).mono ?_; rintro e w6 ⟨rfl, rfl⟩)
        refine wp_region_inv (fun j v => match j with
          | 0 => v = .pointer (some ⟨g5, 3, none⟩)
          | 1 => v = u3
          | 2 => v = .string K
          | 5 => v = .pointer (some ⟨g5, 4, none⟩)
          | 6 => v = u4
          | 7 => v = .pointer (some ⟨g2, 4, none⟩)
          | 8 => v = .slice (some ad) x.f4.length c4
          | 9 => v = .int .i64 i
          | 10 => v = .pointer (some (ad.add (i * 5)))
          | 11 => v = .agg #[.int .i64 P.f0, .int .i64 P.f1, .string P.f2, .slice B3 P.f3.length b3, .slice B4 P.f4.length b4]
          | 14 => v = .pointer (some ⟨g5, 3, none⟩)
          | 16 => v = .pointer (some ⟨g5, 4, none⟩)
          | _ => True) (fun L sl w' => WInv ⟨w, g2, g4, g5, #[.int .i64 x.f0, .int .i64 x.f1, .string x.f2, .slice (some ad3) x.f3.length c3, .slice (some ad) x.f4.length c4], #[.int .i64 0, .int .i64 0, .string (⟨#[]⟩ : ByteArray), .slice none 0 0, .slice none 0 0], x.f0, u3, u4, m, ks, cs, K, [.int .i64 P.f0, .int .i64 P.f1, .string P.f2, .slice B3 P.f3.length b3, .slice B4 P.f4.length b4]⟩ (L 3) (L 4) (L 12) (L 13) (L 15) (L 17) (sl 3) (sl 4) (sl 12) (sl 13) w') (by kernel_rfl) (by kernel_rfl) ?_ ?_ ?_ ?_ ?_
        · exact fun sl => HQ.out.drew'
        · intro j hj
          rcases Nat.lt_or_ge j 18 with h | h
          · obtain rfl | rfl | rfl | rfl | rfl | rfl | rfl | rfl | rfl | rfl | rfl | rfl | rfl | rfl | rfl | rfl | rfl | rfl : j = 0 ∨ j = 1 ∨ j = 2 ∨ j = 3 ∨ j = 4 ∨ j = 5 ∨ j = 6 ∨ j = 7 ∨ j = 8 ∨ j = 9 ∨ j = 10 ∨ j = 11 ∨ j = 12 ∨ j = 13 ∨ j = 14 ∨ j = 15 ∨ j = 16 ∨ j = 17 := by omega
            all_goals first | trivial | exact absurd hj (by decide +kernel)
          · match j, h with | k + 18, _ => trivial
        · intro j o a w' L hj ho hF hL hd hcl hI
          replace hj : j < 18 := hj
          obtain rfl | rfl | rfl | rfl | rfl | rfl | rfl | rfl | rfl | rfl | rfl | rfl | rfl | rfl | rfl | rfl | rfl | rfl : j = 0 ∨ j = 1 ∨ j = 2 ∨ j = 3 ∨ j = 4 ∨ j = 5 ∨ j = 6 ∨ j = 7 ∨ j = 8 ∨ j = 9 ∨ j = 10 ∨ j = 11 ∨ j = 12 ∨ j = 13 ∨ j = 14 ∨ j = 15 ∨ j = 16 ∨ j = 17 := by omega
          case inl =>
            cases ho
            have s0 := hF.get (k := 5) (by decide +kernel)
            change a.tmps.getD 5 undef = .pointer (some ⟨g5, 0, none⟩) at s0
            clear hcl hd
            have hI := Aside0.mk hI
            go_simp
            exact StepPost.mk rfl (fun sl hs hn => by rw [hs 3 (by decide +kernel) (by decide), hs 4 (by decide +kernel) (by decide), hs 12 (by decide +kernel) (by decide), hs 13 (by decide +kernel) (by decide)]; exact hI.out)
          case inr.inl =>
            cases ho
            have e0 : a.tmps.getD 23 undef = .pointer (some ⟨g5, 3, none⟩) := (hd ⟨0, .data⟩ (by simp) rfl).2
            have hz : L 15 = false := by cases h : L 15 with | false => rfl | true => exact absurd (hcl 15 _ rfl h ⟨1, .phase⟩ (by simp) rfl) (by rw [hL]; simp)
            have hx : w'.cell? ⟨g5, 3, none⟩ = some u3 := (blk_cell hI.h5 3).trans (by rw [hz]; rfl)
            clear hcl hd
            have hI := Aside0.mk hI
            go_simp
            exact StepPost.mk rfl (fun sl hs hn => by rw [hs 3 (by decide +kernel) (by decide), hs 4 (by decide +kernel) (by decide), hs 12 (by decide +kernel) (by decide), hs 13 (by decide +kernel) (by decide)]; exact hI.out)
          case inr.inr.inl =>
            cases ho
            have s0 := hF.get (k := 7) (by decide +kernel)
            change a.tmps.getD 7 undef = .string K at s0
            clear hcl hd
            have hI := Aside0.mk hI
            go_simp
            exact StepPost.mk rfl (fun sl hs hn => by rw [hs 3 (by decide +kernel) (by decide), hs 4 (by decide +kernel) (by decide), hs 12 (by decide +kernel) (by decide), hs 13 (by decide +kernel) (by decide)]; exact hI.out)
          case inr.inr.inr.inl =>
            cases ho
            have e2 : a.tmps.getD 25 undef = .string K := (hd ⟨2, .data⟩ (by simp) rfl).2
            rw [Array.getD_eq_getD_getElem?] at e2
            clear hcl hd
            have hI := Aside0.mk hI
            go_simp
            refine StepPost.mk ?_ (fun sl hs hn => ?_)
            · trivial
            · rw [hn (by decide +kernel), hs 4 (by decide +kernel) (by decide), hs 12 (by decide +kernel) (by decide), hs 13 (by decide +kernel) (by decide)]
              exact hI.out.new3
          case inr.inr.inr.inr.inl =>
            cases ho
            have e1 : a.tmps.getD 24 undef = u3 := (hd ⟨1, .data⟩ (by simp) rfl).2
            have t3 := (hd ⟨3, .data⟩ (by simp) rfl).1
            have f13 : L 13 = false := by cases h : L 13 with | false => rfl | true => exact absurd (hcl 13 _ rfl h ⟨4, .chain⟩ (by simp) rfl) (by rw [hL]; simp)
            have f15 : L 15 = false := by cases h : L 15 with | false => rfl | true => exact absurd (hcl 15 _ rfl h ⟨4, .data⟩ (by simp) rfl) (by rw [hL]; simp)
            have f17 : L 17 = false := by cases h : L 17 with | false => rfl | true => exact absurd (hcl 17 _ rfl h ⟨4, .phase⟩ (by simp) rfl) (by rw [hL]; simp)
            replace hI : WInv ⟨w, g2, g4, g5, #[.int .i64 x.f0, .int .i64 x.f1, .string x.f2, .slice (some ad3) x.f3.length c3, .slice (some ad) x.f4.length c4], #[.int .i64 0, .int .i64 0, .string (⟨#[]⟩ : ByteArray), .slice none 0 0, .slice none 0 0], x.f0, u3, u4, m, ks, cs, K, [.int .i64 P.f0, .int .i64 P.f1, .string P.f2, .slice B3 P.f3.length b3, .slice B4 P.f4.length b4]⟩ (L 3) (L 4) (L 12) (L 13) (L 15) (L 17) (slotOf _ a 3) (slotOf _ a 4) (slotOf _ a 12) (slotOf _ a 13) w' := hI
            rw [t3, hL, f13, f15, f17] at hI
            obtain ⟨g, hs3, hg⟩ := hI.n3 rfl rfl
            refine wp_append_own _ (.tmp 24) (.tmp 26) 22 rfl (g5 + 1) 9 i9 (.string ⟨#[]⟩) 1 16 Tryd.underlying22 hi9 hz0 hz1 hz2 rfl (by decide) u3 m ks e1 (hI.o3 rfl) ⟨g, 0, none⟩ 1 1 [.string K] hs3 rfl (news_blk hg) (one_one K) (by unfold maxLen; omega) (by omega) (by have := blk_lt hI.h5; exact this) ?_
            intro v' w2 ho hg2 _
            refine StepPost.mk ?_ (fun sl hs hn => ?_)
            · trivial
            rw [hs 3 (by decide +kernel) (by decide), hn (by decide +kernel), hs 12 (by decide +kernel) (by decide), hs 13 (by decide +kernel) (by decide)]
            show WInv ⟨w, g2, g4, g5, #[.int .i64 x.f0, .int .i64 x.f1, .string x.f2, .slice (some ad3) x.f3.length c3, .slice (some ad) x.f4.length c4], #[.int .i64 0, .int .i64 0, .string (⟨#[]⟩ : ByteArray), .slice none 0 0, .slice none 0 0], x.f0, u3, u4, m, ks, cs, K, [.int .i64 P.f0, .int .i64 P.f1, .string P.f2, .slice B3 P.f3.length b3, .slice B4 P.f4.length b4]⟩ (L 3) true (L 12) (L 13) (L 15) (L 17) _ _ _ _ _
            rw [t3, f13, f15, f17]
            exact hI.app4 L25.out L45.out L5.out ho hg2
          case inr.inr.inr.inr.inr.inl =>
            cases ho
            have s0 := hF.get (k := 5) (by decide +kernel)
            change a.tmps.getD 5 undef = .pointer (some ⟨g5, 0, none⟩) at s0
            clear hcl hd
            have hI := Aside0.mk hI
            go_simp
            exact StepPost.mk rfl (fun sl hs hn => by rw [hs 3 (by decide +kernel) (by decide), hs 4 (by decide +kernel) (by decide), hs 12 (by decide +kernel) (by decide), hs 13 (by decide +kernel) (by decide)]; exact hI.out)
          case inr.inr.inr.inr.inr.inr.inl =>
            cases ho
            have e5 : a.tmps.getD 28 undef = .pointer (some ⟨g5, 4, none⟩) := (hd ⟨5, .data⟩ (by simp) rfl).2
            have hz : L 17 = false := by cases h : L 17 with | false => rfl | true => exact absurd (hcl 17 _ rfl h ⟨6, .phase⟩ (by simp) rfl) (by rw [hL]; simp)
            have hx : w'.cell? ⟨g5, 4, none⟩ = some u4 := (blk_cell hI.h5 4).trans (by rw [hz]; rfl)
            clear hcl hd
            have hI := Aside0.mk hI
            go_simp
            exact StepPost.mk rfl (fun sl hs hn => by rw [hs 3 (by decide +kernel) (by decide), hs 4 (by decide +kernel) (by decide), hs 12 (by decide +kernel) (by decide), hs 13 (by decide +kernel) (by decide)]; exact hI.out)
          case inr.inr.inr.inr.inr.inr.inr.inl =>
            cases ho
            have s0 := hF.get (k := 2) (by decide +kernel)
            change a.tmps.getD 2 undef = .pointer (some ⟨g2, 0, none⟩) at s0
            clear hcl hd
            have hI := Aside0.mk hI
            go_simp
            exact StepPost.mk rfl (fun sl hs hn => by rw [hs 3 (by decide +kernel) (by decide), hs 4 (by decide +kernel) (by decide), hs 12 (by decide +kernel) (by decide), hs 13 (by decide +kernel) (by decide)]; exact hI.out)
          case inr.inr.inr.inr.inr.inr.inr.inr.inl =>
            cases ho
            have e7 : a.tmps.getD 30 undef = .pointer (some ⟨g2, 4, none⟩) := (hd ⟨7, .data⟩ (by simp) rfl).2
            have hx : w'.cell? ⟨g2, 4, none⟩ = some (.slice (some ad) x.f4.length c4) := (blk_cell hI.h2 4).trans rfl
            clear hcl hd
            have hI := Aside0.mk hI
            go_simp
            exact StepPost.mk rfl (fun sl hs hn => by rw [hs 3 (by decide +kernel) (by decide), hs 4 (by decide +kernel) (by decide), hs 12 (by decide +kernel) (by decide), hs 13 (by decide +kernel) (by decide)]; exact hI.out)
          case inr.inr.inr.inr.inr.inr.inr.inr.inr.inl =>
            cases ho
            have s0 := hF.get (k := 6) (by decide +kernel)
            change a.tmps.getD 6 undef = .int .i64 i at s0
            clear hcl hd
            have hI := Aside0.mk hI
            go_simp
            exact StepPost.mk rfl (fun sl hs hn => by rw [hs 3 (by decide +kernel) (by decide), hs 4 (by decide +kernel) (by decide), hs 12 (by decide +kernel) (by decide), hs 13 (by decide +kernel) (by decide)]; exact hI.out)
          case inr.inr.inr.inr.inr.inr.inr.inr.inr.inr.inl =>
            cases ho
            have e8 : a.tmps.getD 31 undef = .slice (some ad) x.f4.length c4 := (hd ⟨8, .data⟩ (by simp) rfl).2
            have e9 : a.tmps.getD 32 undef = .int .i64 i := (hd ⟨9, .data⟩ (by simp) rfl).2
            have q1 : (i : Int) < (x.f4.length : Int) := Int.ofNat_lt.2 HLt.out
            have p1 : (0 : Int) ≤ (i : Int) := Int.natCast_nonneg i
            clear hcl hd
            have hI := Aside0.mk hI
            go_simp
            exact StepPost.mk rfl (fun sl hs hn => by rw [hs 3 (by decide +kernel) (by decide), hs 4 (by decide +kernel) (by decide), hs 12 (by decide +kernel) (by decide), hs 13 (by decide +kernel) (by decide)]; exact hI.out)
          case inr.inr.inr.inr.inr.inr.inr.inr.inr.inr.inr.inl =>
            cases ho
            have e10 : a.tmps.getD 33 undef = .pointer (some (ad.add (i * 5))) := (hd ⟨10, .data⟩ (by simp) rfl).2
            have hB := hI.below
            have y0 := (hB.cell (World.block_lt_of_cell? w _ hx0)).trans hx0
            have y1 := (hB.cell (World.block_lt_of_cell? w _ hx1)).trans hx1
            have y2 := (hB.cell (World.block_lt_of_cell? w _ hx2)).trans hx2
            have y3 := (hB.cell (World.block_lt_of_cell? w _ hx3)).trans hx3
            have y4 := (hB.cell (World.block_lt_of_cell? w _ hx4)).trans hx4
            clear hcl hd
            have hI := Aside0.mk hI
            go_simp
            exact StepPost.mk rfl (fun sl hs hn => by rw [hs 3 (by decide +kernel) (by decide), hs 4 (by decide +kernel) (by decide), hs 12 (by decide +kernel) (by decide), hs 13 (by decide +kernel) (by decide)]; exact hI.out)
          case inr.inr.inr.inr.inr.inr.inr.inr.inr.inr.inr.inr.inl =>
            cases ho
            have e11 : a.tmps.getD 34 undef = .agg #[.int .i64 P.f0, .int .i64 P.f1, .string P.f2, .slice B3 P.f3.length b3, .slice B4 P.f4.length b4] := (hd ⟨11, .data⟩ (by simp) rfl).2
            rw [Array.getD_eq_getD_getElem?] at e11
            clear hcl hd
            have hI := Aside0.mk hI
            go_simp
            refine StepPost.mk ?_ (fun sl hs hn => ?_)
            · trivial
            · rw [hs 3 (by decide +kernel) (by decide), hs 4 (by decide +kernel) (by decide), hn (by decide +kernel), hs 13 (by decide +kernel) (by decide)]
              exact hI.out.new12
          case inr.inr.inr.inr.inr.inr.inr.inr.inr.inr.inr.inr.inr.inl =>
            cases ho
            have e6 : a.tmps.getD 29 undef = u4 := (hd ⟨6, .data⟩ (by simp) rfl).2
            have t12 := (hd ⟨12, .data⟩ (by simp) rfl).1
            have t4 := (hd ⟨4, .chain⟩ (by simp) rfl).1
            have t3 := hcl 4 _ rfl t4 ⟨3, .data⟩ (by simp) rfl
            have f15 : L 15 = false := by cases h : L 15 with | false => rfl | true => exact absurd (hcl 15 _ rfl h ⟨13, .chain⟩ (by simp) rfl) (by rw [hL]; simp)
            have f17 : L 17 = false := by cases h : L 17 with | false => rfl | true => exact absurd (hcl 17 _ rfl h ⟨13, .data⟩ (by simp) rfl) (by rw [hL]; simp)
            replace hI : WInv ⟨w, g2, g4, g5, #[.int .i64 x.f0, .int .i64 x.f1, .string x.f2, .slice (some ad3) x.f3.length c3, .slice (some ad) x.f4.length c4], #[.int .i64 0, .int .i64 0, .string (⟨#[]⟩ : ByteArray), .slice none 0 0, .slice none 0 0], x.f0, u3, u4, m, ks, cs, K, [.int .i64 P.f0, .int .i64 P.f1, .string P.f2, .slice B3 P.f3.length b3, .slice B4 P.f4.length b4]⟩ (L 3) (L 4) (L 12) (L 13) (L 15) (L 17) (slotOf _ a 3) (slotOf _ a 4) (slotOf _ a 12) (slotOf _ a 13) w' := hI
            rw [t3, t4, t12, hL, f15, f17] at hI
            obtain ⟨g, hs12, hg⟩ := hI.n12 rfl rfl
            refine wp_append_own _ (.tmp 29) (.tmp 35) 23 rfl (g5 + 1) 25 i25 (.agg #[.int .i64 0, .int .i64 0, .string ⟨#[]⟩, .slice none 0 0, .slice none 0 0]) 5 80 Tryd.underlying23 hi25 hy0 hy1 hy2 rfl (by decide) u4 m cs e6 (hI.o4 rfl) ⟨g, 0, none⟩ 1 1 [.int .i64 P.f0, .int .i64 P.f1, .string P.f2, .slice B3 P.f3.length b3, .slice B4 P.f4.length b4] hs12 rfl (news_blk hg) (by intro u hu; simp at hu; rcases hu with rfl | rfl | rfl | rfl | rfl <;> rfl) (by unfold maxLen; omega) (by omega) (by have := blk_lt hI.h5; exact this) ?_
            intro v' w2 ho hg2 _
            refine StepPost.mk ?_ (fun sl hs hn => ?_)
            · trivial
            rw [hs 3 (by decide +kernel) (by decide), hs 4 (by decide +kernel) (by decide), hs 12 (by decide +kernel) (by decide), hn (by decide +kernel)]
            show WInv ⟨w, g2, g4, g5, #[.int .i64 x.f0, .int .i64 x.f1, .string x.f2, .slice (some ad3) x.f3.length c3, .slice (some ad) x.f4.length c4], #[.int .i64 0, .int .i64 0, .string (⟨#[]⟩ : ByteArray), .slice none 0 0, .slice none 0 0], x.f0, u3, u4, m, ks, cs, K, [.int .i64 P.f0, .int .i64 P.f1, .string P.f2, .slice B3 P.f3.length b3, .slice B4 P.f4.length b4]⟩ (L 3) (L 4) (L 12) true (L 15) (L 17) _ _ _ _ _
            rw [t3, t4, t12, f15, f17]
            exact hI.app13 L25.out L45.out L5.out ho hg2
          case inr.inr.inr.inr.inr.inr.inr.inr.inr.inr.inr.inr.inr.inr.inl =>
            cases ho
            have s0 := hF.get (k := 5) (by decide +kernel)
            change a.tmps.getD 5 undef = .pointer (some ⟨g5, 0, none⟩) at s0
            clear hcl hd
            have hI := Aside0.mk hI
            go_simp
            exact StepPost.mk rfl (fun sl hs hn => by rw [hs 3 (by decide +kernel) (by decide), hs 4 (by decide +kernel) (by decide), hs 12 (by decide +kernel) (by decide), hs 13 (by decide +kernel) (by decide)]; exact hI.out)
          case inr.inr.inr.inr.inr.inr.inr.inr.inr.inr.inr.inr.inr.inr.inr.inl =>
            cases ho
            have e14 : a.tmps.getD 37 undef = .pointer (some ⟨g5, 3, none⟩) := (hd ⟨14, .data⟩ (by simp) rfl).2
            have t13 := (hd ⟨13, .chain⟩ (by simp) rfl).1
            have t12 := hcl 13 _ rfl t13 ⟨12, .data⟩ (by simp) rfl
            have t4 := (hd ⟨4, .data⟩ (by simp) rfl).1
            have t3 := hcl 4 _ rfl t4 ⟨3, .data⟩ (by simp) rfl
            have f17 : L 17 = false := by cases h : L 17 with | false => rfl | true => exact absurd (hcl 17 _ rfl h ⟨15, .phase⟩ (by simp) rfl) (by rw [hL]; simp)
            replace hI : WInv ⟨w, g2, g4, g5, #[.int .i64 x.f0, .int .i64 x.f1, .string x.f2, .slice (some ad3) x.f3.length c3, .slice (some ad) x.f4.length c4], #[.int .i64 0, .int .i64 0, .string (⟨#[]⟩ : ByteArray), .slice none 0 0, .slice none 0 0], x.f0, u3, u4, m, ks, cs, K, [.int .i64 P.f0, .int .i64 P.f1, .string P.f2, .slice B3 P.f3.length b3, .slice B4 P.f4.length b4]⟩ (L 3) (L 4) (L 12) (L 13) (L 15) (L 17) (slotOf _ a 3) (slotOf _ a 4) (slotOf _ a 12) (slotOf _ a 13) w' := hI
            rw [t3, t4, t12, t13, hL, f17] at hI
            obtain ⟨gv, cv, hv4⟩ := own_form (hI.o3' rfl) (Nat.succ_ne_zero m)
            have e4 : a.tmps.getD 27 undef = .slice (some ⟨gv, 0, none⟩) (m + 1) cv := hv4
            have y3 : w'.cell? ⟨g5, 3, none⟩ = some u3 := (blk_cell hI.h5 3).trans rfl
            have y4 : w'.frozen? ⟨g5, 3, none⟩ = false := blk_frozen hI.h5 3
            have hput := hI.put15 (Nat.ne_of_lt L25.out) (Nat.ne_of_lt L45.out) L5.out
            rw [hv4] at hput
            have hput := Aside0.mk hput
            have hA4 := Aside0.mk hv4
            have hT := Aside0.mk (And.intro t3 (And.intro t4 (And.intro t12 (And.intro t13 f17))))
            clear hcl hd hI hv4 t3 t4 t12 t13 f17 hL
            go_simp
            refine StepPost.none ?_ (fun sl hs hn => ?_)
            · trivial
            rw [hs 3 (by decide +kernel) (by decide), hs 4 (by decide +kernel) (by decide), hs 12 (by decide +kernel) (by decide), hs 13 (by decide +kernel) (by decide)]
            show WInv ⟨w, g2, g4, g5, #[.int .i64 x.f0, .int .i64 x.f1, .string x.f2, .slice (some ad3) x.f3.length c3, .slice (some ad) x.f4.length c4], #[.int .i64 0, .int .i64 0, .string (⟨#[]⟩ : ByteArray), .slice none 0 0, .slice none 0 0], x.f0, u3, u4, m, ks, cs, K, [.int .i64 P.f0, .int .i64 P.f1, .string P.f2, .slice B3 P.f3.length b3, .slice B4 P.f4.length b4]⟩ (L 3) (L 4) (L 12) (L 13) true (L 17) _ _ _ _ _
            rw [hT.out.1, hT.out.2.1, hT.out.2.2.1, hT.out.2.2.2.1, hT.out.2.2.2.2, hA4.out]
            exact hput.out
          case inr.inr.inr.inr.inr.inr.inr.inr.inr.inr.inr.inr.inr.inr.inr.inr.inl =>
            cases ho
            have s0 := hF.get (k := 5) (by decide +kernel)
            change a.tmps.getD 5 undef = .pointer (some ⟨g5, 0, none⟩) at s0
            clear hcl hd
            have hI := Aside0.mk hI
            go_simp
            exact StepPost.mk rfl (fun sl hs hn => by rw [hs 3 (by decide +kernel) (by decide), hs 4 (by decide +kernel) (by decide), hs 12 (by decide +kernel) (by decide), hs 13 (by decide +kernel) (by decide)]; exact hI.out)
          case inr.inr.inr.inr.inr.inr.inr.inr.inr.inr.inr.inr.inr.inr.inr.inr.inr =>
            cases ho
            have e16 : a.tmps.getD 38 undef = .pointer (some ⟨g5, 4, none⟩) := (hd ⟨16, .data⟩ (by simp) rfl).2
            have t15 := (hd ⟨15, .phase⟩ (by simp) rfl).1
            have t13 := (hd ⟨13, .data⟩ (by simp) rfl).1
            have t12 := hcl 13 _ rfl t13 ⟨12, .data⟩ (by simp) rfl
            have t4 := (hd ⟨4, .phase⟩ (by simp) rfl).1
            have t3 := hcl 4 _ rfl t4 ⟨3, .data⟩ (by simp) rfl
            replace hI : WInv ⟨w, g2, g4, g5, #[.int .i64 x.f0, .int .i64 x.f1, .string x.f2, .slice (some ad3) x.f3.length c3, .slice (some ad) x.f4.length c4], #[.int .i64 0, .int .i64 0, .string (⟨#[]⟩ : ByteArray), .slice none 0 0, .slice none 0 0], x.f0, u3, u4, m, ks, cs, K, [.int .i64 P.f0, .int .i64 P.f1, .string P.f2, .slice B3 P.f3.length b3, .slice B4 P.f4.length b4]⟩ (L 3) (L 4) (L 12) (L 13) (L 15) (L 17) (slotOf _ a 3) (slotOf _ a 4) (slotOf _ a 12) (slotOf _ a 13) w' := hI
            rw [t3, t4, t12, t13, t15, hL] at hI
            obtain ⟨gv, cv, hv13⟩ := own_form (hI.o4' rfl) (Nat.succ_ne_zero m)
            have e13 : a.tmps.getD 36 undef = .slice (some ⟨gv, 0, none⟩) (m + 1) cv := hv13
            have y3 : w'.cell? ⟨g5, 4, none⟩ = some u4 := (blk_cell hI.h5 4).trans rfl
            have y4 : w'.frozen? ⟨g5, 4, none⟩ = false := blk_frozen hI.h5 4
            have hput := hI.put17 (Nat.ne_of_lt L25.out) (Nat.ne_of_lt L45.out) L5.out
            rw [hv13] at hput
            have hput := Aside0.mk hput
            have hA4 := Aside0.mk hv13
            have hT := Aside0.mk (And.intro t3 (And.intro t4 (And.intro t12 (And.intro t13 t15))))
            clear hcl hd hI hv13 t3 t4 t12 t13 t15 hL
            go_simp
            refine StepPost.none ?_ (fun sl hs hn => ?_)
            · trivial
            rw [hs 3 (by decide +kernel) (by decide), hs 4 (by decide +kernel) (by decide), hs 12 (by decide +kernel) (by decide), hs 13 (by decide +kernel) (by decide)]
            show WInv ⟨w, g2, g4, g5, #[.int .i64 x.f0, .int .i64 x.f1, .string x.f2, .slice (some ad3) x.f3.length c3, .slice (some ad) x.f4.length c4], #[.int .i64 0, .int .i64 0, .string (⟨#[]⟩ : ByteArray), .slice none 0 0, .slice none 0 0], x.f0, u3, u4, m, ks, cs, K, [.int .i64 P.f0, .int .i64 P.f1, .string P.f2, .slice B3 P.f3.length b3, .slice B4 P.f4.length b4]⟩ (L 3) (L 4) (L 12) (L 13) (L 15) true _ _ _ _ _
            rw [hT.out.1, hT.out.2.1, hT.out.2.2.1, hT.out.2.2.2.1, hT.out.2.2.2.2, hA4.out]
            exact hput.out
        · intro vs w' hv hI
          have HO3 := Aside0.mk (hI.o3' rfl)
          have HO4 := Aside0.mk (hI.o4' rfl)
          have K2 := Aside0.mk hI.h2
          have K4 := Aside0.mk hI.h4
          have K5 := Aside0.mk hI.h5
          have HB9 := Aside0.mk hI.below
          clear hv hI
          generalize hL : layF _ _ _ vs = LL
          obtain rfl : LL = [.agg #[.int .i64 x.f0, .int .i64 x.f1, .string x.f2, .slice (some ad3) x.f3.length c3, .slice (some ad) x.f4.length c4], .slice (some ⟨kb, 0, none⟩) 2 2, .pointer (some ⟨g2, 0, none⟩), undef, .pointer (some ⟨g4, 0, none⟩), .pointer (some ⟨g5, 0, none⟩), .int .i64 i, .string K, .pointer (some ⟨g2, 0, none⟩), .int .i64 x.f0, .agg #[.int .i64 x.f0, .int .i64 0, .string ⟨#[]⟩, .slice none 0 0, .slice none 0 0], .pointer (some ⟨g2, 3, none⟩), .slice (some ad3) x.f3.length c3, .int .i64 x.f3.length, .int .i64 i, .bool true, .int .i64 i, .pointer (some (ad3.add i)), .string K, .slice (some ⟨kb, 0, none⟩) 2 2, .string K, .bool false, .bool true, vs 0, vs 1, vs 2, vs 3, vs 4, vs 5, vs 6, vs 7, vs 8, vs 9, vs 10, vs 11, vs 12, vs 13, vs 14, vs 16, u39, undef] := hL.symm
          clear hL
          go_wp2
          go_roundw
          case rel => exact ⟨i + 1, vs 4, vs 13, css ++ [[.int .i64 P.f0, .int .i64 P.f1, .string P.f2, .slice B3 P.f3.length b3, .slice B4 P.f4.length b4]], by simp, ⟨hlt⟩, ⟨by rw [hkp.out, List.map_append]; exact rowsOf_snoc HR.out HP.out rfl⟩, ⟨by have h := HO3.out; rw [hmA.out, hksA.out] at h; rw [hkp.out]; simpa using h⟩, ⟨by have h := HO4.out; rw [hmA.out, hcsA.out] at h; rw [hkp.out]; simpa using h⟩, K2, K4, K5, HB9⟩
          case measure => simp [intOf]; omega
        · intro L L' sl w' he hI
          rw [← he 3 (by decide +kernel), ← he 4 (by decide +kernel), ← he 12 (by decide +kernel), ← he 13 (by decide +kernel), ← he 15 (by decide +kernel), ← he 17 (by decide +kernel)]
          exact hI
    · obtain rfl : i = x.f3.length := by omega
      obtain ⟨A3', c3', rfl⟩ := own_slice H3.out
      obtain ⟨A4', c4', rfl⟩ := own_slice H4.out
      have hw3 := own_le H3.out
      have hw4 := own_le H4.out
      have HW3 := Aside0.mk hw3
      have HW4 := Aside0.mk hw4
      clear hw3 hw4
      have y50 : wr.cell? ⟨g5, 0, none⟩ = some (.int .i64 x.f0) := (blk_cell J5.out 0).trans rfl
      have y51 : wr.cell? ⟨g5, 1, none⟩ = some (.int .i64 0) := (blk_cell J5.out 1).trans rfl
      have y52 : wr.cell? ⟨g5, 2, none⟩ = some (.string (⟨#[]⟩ : ByteArray)) := (blk_cell J5.out 2).trans rfl
      have y53 : wr.cell? ⟨g5, 3, none⟩ = some (.slice A3' (keptL x x.f3.length).length c3') := (blk_cell J5.out 3).trans rfl
      have y54 : wr.cell? ⟨g5, 4, none⟩ = some (.slice A4' (keptL x x.f3.length).length c4') := (blk_cell J5.out 4).trans rfl
      have y40 : wr.cell? ⟨g4, 0, none⟩ = some (.int .i64 0) := (blk_cell J4.out 0).trans rfl
      have yf0 := blk_frozen J4.out 0
      have y41 : wr.cell? ⟨g4, 1, none⟩ = some (.int .i64 0) := (blk_cell J4.out 1).trans rfl
      have yf1 := blk_frozen J4.out 1
      have y42 : wr.cell? ⟨g4, 2, none⟩ = some (.string (⟨#[]⟩ : ByteArray)) := (blk_cell J4.out 2).trans rfl
      have yf2 := blk_frozen J4.out 2
      have y43 : wr.cell? ⟨g4, 3, none⟩ = some (.slice none 0 0) := (blk_cell J4.out 3).trans rfl
      have yf3 := blk_frozen J4.out 3
      have y44 : wr.cell? ⟨g4, 4, none⟩ = some (.slice none 0 0) := (blk_cell J4.out 4).trans rfl
      have yf4 := blk_frozen J4.out 4
      have N45 := Nat.ne_of_lt L45.out
      have N54 : g5 ≠ g4 := Nat.ne_of_gt L45.out
      go_wp2
      refine bodyPost_ret (results_cell_row (P := Tryd.prog) rfl _ _ g4 25 #[.int .i64 x.f0, .int .i64 0, .string ⟨#[]⟩, .slice A3' (keptL x x.f3.length).length c3', .slice A4' (keptL x x.f3.length).length c4'] (0, 0) _ rfl ?_ Tryd.underlying25 rfl size25) rfl ?_
      · refine blk_put (cs := #[.int .i64 x.f0, .int .i64 0, .string ⟨#[]⟩, .slice A3' (keptL x x.f3.length).length c3', .slice none 0 0]) ?_ 4 _ rfl
        refine blk_put (cs := #[.int .i64 x.f0, .int .i64 0, .string ⟨#[]⟩, .slice none 0 0, .slice none 0 0]) ?_ 3 _ rfl
        refine blk_put (cs := #[.int .i64 x.f0, .int .i64 0, .string ⟨#[]⟩, .slice none 0 0, .slice none 0 0]) ?_ 2 _ rfl
        refine blk_put (cs := #[.int .i64 x.f0, .int .i64 0, .string ⟨#[]⟩, .slice none 0 0, .slice none 0 0]) ?_ 1 _ rfl
        exact blk_put (cs := #[.int .i64 0, .int .i64 0, .string ⟨#[]⟩, .slice none 0 0, .slice none 0 0]) J4.out 0 _ rfl
      · have g4B : g4 < g5 + 1 := Nat.lt_succ_of_lt L45.out
        have hB : w.heap.size ≤ g4 := GE4.out
        have e3 := own_str (set_own (o := 4) (u := .slice A4' (keptL x x.f3.length).length c4') (set_own (o := 3) (u := .slice A3' (keptL x x.f3.length).length c3') (set_own (o := 2) (u := .string ⟨#[]⟩) (set_own (o := 1) (u := .int .i64 0) (set_own (o := 0) (u := .int .i64 x.f0) H3.out g4B) g4B) g4B) g4B) g4B)
        have hBF := below_set (j := 4) (v := .slice A4' (keptL x x.f3.length).length c4') (below_set (j := 3) (v := .slice A3' (keptL x x.f3.length).length c3') (below_set (j := 2) (v := .string ⟨#[]⟩) (below_set (j := 1) (v := .int .i64 0) (below_set (j := 0) (v := .int .i64 x.f0) HBr.out hB) hB) hB) hB) hB
        have e4 := own_val HR.out hBF (set_own (o := 4) (u := .slice A4' (keptL x x.f3.length).length c4') (set_own (o := 3) (u := .slice A3' (keptL x x.f3.length).length c3') (set_own (o := 2) (u := .string ⟨#[]⟩) (set_own (o := 1) (u := .int .i64 0) (set_own (o := 0) (u := .int .i64 x.f0) H4.out g4B) g4B) g4B) g4B) g4B)
        have l3 : (withF x).f3.length = (keptL x x.f3.length).length := List.length_map ..
        have l4 : (withF x).f4.length = (keptL x x.f3.length).length := List.length_map ..
        refine ⟨A3', c3', A4', c4', by rw [l3, l4], ⟨by rw [l3]; exact HW3.out, ?_, by rw [l4]; exact HW4.out, ?_⟩, hBF⟩
        · rw [l3]; exact e3
        · rw [l4]; exact e4
end Go.Proofs.YtmecnjhjlhpehaaDoor.Q
