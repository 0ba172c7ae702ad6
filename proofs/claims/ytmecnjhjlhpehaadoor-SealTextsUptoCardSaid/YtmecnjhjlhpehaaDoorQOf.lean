/- json.Of, walked: the text of a value without a fault. -/
import Derived.Test.YtmecnjhjlhpehaaDoorPlRt
import Derived.Test.YtmecnjhjlhpehaaDoorQQu
namespace Go.Proofs.YtmecnjhjlhpehaaDoor.Q
open Go.RowKit Go.Proofs.YtmecnjhjlhpehaaDoor.Plain Go.Proofs.YtmecnjhjlhpehaaDoorW.PrintWords Go.Proofs.YtmecnjhjlhpehaaDoorW.PrintLast Go.Proofs.YtmecnjhjlhpehaaDoorW.PrintMore
set_option linter.unusedVariables false
set_option linter.unusedSimpArgs false
/-- The library's tables, as far as the walks read them. -/
def Glob (w : World) : Prop := w.cell? ⟨3, 15, none⟩ = some (.int .u8 4) ∧ Lib.TabIs Tryd.prog w "internal/strconv.uint64pow10" .u64 Lib.pow10Tab
theorem gPow : ∃ g, Tryd.prog.globalNamed "internal/strconv.uint64pow10" = some g := Option.isSome_iff_exists.1 (by kernel_rfl)
theorem Glob.below {w W : World} (h : Glob w) (hb : Below w.heap.size w W) : Glob W := by
  obtain ⟨h1, h2⟩ := h
  refine ⟨(hb.cell (World.block_lt_of_cell? w _ h1)).trans h1, ?_⟩
  obtain ⟨g, hg⟩ := gPow
  unfold Lib.TabIs World.var? at h2 ⊢
  rw [hg] at h2 ⊢
  simp only [Option.bind_some] at h2 ⊢
  have hlt : g < w.heap.size := by
    rcases Nat.lt_or_ge g w.heap.size with h | h
    · exact h
    · rw [Array.getElem?_eq_none h] at h2; cases h2
  rw [hb.block g hlt]
  exact h2
theorem info9' : (Tryd.prog.info? 9).map (fun i => (i.zero, i.size, i.bytes)) = some (some (.string ⟨#[]⟩), 1, 16) := info9
/-- The first n items, as strings. -/
def itemsV (x : S25) (T : S25 → List UInt8) (n : Nat) : List Value := (List.range n).map fun j => Value.string (bz (itemF x T j))
theorem itemsV_len (x : S25) (T : S25 → List UInt8) (n : Nat) : (itemsV x T n).length = n := by simp [itemsV]
theorem itemsV_succ (x : S25) (T : S25 → List UInt8) (n : Nat) : itemsV x T (n + 1) = itemsV x T n ++ [.string (bz (itemF x T n))] := by
  unfold itemsV
  rw [List.range_succ, List.map_append]
  rfl
theorem own_cells {w : World} {B n : Nat} {v : Value} {xs : List Value} (h : w.ownsRow B 9 1 v n xs) (hn : 0 < n) : ∃ g cap, v = .slice (some ⟨g, 0, none⟩) n cap ∧ n ≤ cap ∧ g < w.heap.size ∧ ∀ (j : Nat) u, xs[j]? = some u → w.cell? ⟨g, 0 + j, none⟩ = some u := by
  obtain ⟨hl, h | ⟨g, cap, cur, hv, _, hb, hc, _, _, ht⟩⟩ := h
  · omega
  refine ⟨g, cap, hv, hc, (Array.getElem?_eq_some_iff.1 hb).1, fun j u hu => ?_⟩
  rw [Nat.zero_add, cell_of_row w g j cur 9 (0, 0) hb, ← Array.getElem?_toList]
  have hj : j < n * 1 := by have := (List.getElem?_eq_some_iff.1 hu).1; omega
  rw [← ht, List.getElem?_take_of_lt hj] at hu
  exact hu
theorem own_zero {w : World} {B n : Nat} {v : Value} {xs : List Value} (h : w.ownsRow B 9 1 v n xs) : ∃ A c, v = .slice A n c := by
  obtain ⟨hl, ⟨h, rfl⟩ | ⟨g, cap, cur, hv, _⟩⟩ := h
  · exact ⟨none, 0, h⟩
  · exact ⟨_, _, hv⟩
theorem join_walk (x : S25) (T : S25 → List UInt8) (n B : Nat) (v : Value) (w : World) (hlen : (accT x T n).length ≤ 140737488355328) (hn : n ≤ 140737488355328) (h : w.ownsRow B 9 1 v n (itemsV x T n)) :
    Calls Tryd.prog 23 #[v, .string ⟨#[44]⟩] w fun e w' => e = .returned (.string (bz (accT x T n))) ∧ Below w.heap.size w w' := by
  rcases Nat.eq_zero_or_pos n with rfl | h0
  · obtain ⟨A, c, rfl⟩ := own_zero h
    refine (Tryd.strings_Join_none A c ⟨#[44]⟩ w).mono ?_
    rintro e w' ⟨rfl, rfl⟩
    exact ⟨rfl, Below.refl _ _⟩
  · obtain ⟨g, cap, rfl, hc, hg, hcell⟩ := own_cells h h0
    have e1 : (((List.range n).map fun j => bz (itemF x T j)).map (·.data.toList)) = (List.range n).map (itemF x T) := by
      rw [List.map_map]
      rfl
    have hl : ((List.range n).map fun j => bz (itemF x T j)).length = n := by simp
    have hJ := Tryd.strings_Join g 0 cap ((List.range n).map fun j => bz (itemF x T j)) ⟨#[44]⟩ w (fun j y hy => hcell j _ (by
      unfold itemsV
      rw [List.getElem?_map] at hy ⊢
      cases hr : (List.range n)[j]? with
      | none => rw [hr] at hy; cases hy
      | some k => rw [hr] at hy; simp only [Option.map_some, Option.some.injEq] at hy ⊢; rw [← hy])) hg (by omega) (by omega) (by rw [e1]; exact hlen)
    rw [hl, e1] at hJ
    exact hJ
theorem new_cell (w : World) (s : ByteArray) (j : Nat) (u : Value) (h : [Value.string s][j]? = some u) : (w.alloc (.cells #[.string s] 9 (0, 0))).cell? ((⟨w.heap.size, 0, none⟩ : Addr).add j) = some u := by
  match j, h with
  | 0, h =>
    simp only [List.getElem?_cons_zero, Option.some.injEq] at h
    subst h
    exact (cell_of_row _ w.heap.size 0 #[.string s] 9 (0, 0) (heap_alloc_new w _)).trans rfl
theorem one_one (s : ByteArray) (u : Value) (h : u ∈ [Value.string s]) : u.oneCell' = true := by
  simp only [List.mem_singleton] at h
  subst h
  rfl
theorem own_ne {w : World} {B e s n g : Nat} {v : Value} {xs : List Value} (h : w.ownsRow B e s v n xs) (hg : g < B) : some g ≠ v.ownBlock := fun he => by
  have := (h.lt g he.symm).1
  omega
theorem getD_str {l : List ByteArray} {i : Nat} (h : i < l.length) : l.getD i ByteArray.empty = l[i] := by rw [List.getD_eq_getElem?_getD, List.getElem?_eq_getElem h]; rfl
theorem at_item (x : S25) (T : S25 → List UInt8) (i : Nat) (hi : i < x.f4.length) (h7 : x.f0 = 7) (hk : i < x.f3.length) : bz (itemF x T i) = (quoteF x.f3[i] ++ (⟨#[58]⟩ : ByteArray)) ++ bz (T x.f4[i]) := by
  have e2 : x.f4.getD i z25 = x.f4[i] := by rw [List.getD_eq_getElem?_getD, List.getElem?_eq_getElem hi]; rfl
  have e3 : x.f3.getD i ByteArray.empty = x.f3[i] := by rw [List.getD_eq_getElem?_getD, List.getElem?_eq_getElem hk]; rfl
  unfold itemF
  rw [if_pos h7, e2, e3, bz_eta (quoteF x.f3[i]), show (⟨#[58]⟩ : ByteArray) = bz [58] from rfl]
  show _ = bz (quoteF x.f3[i]).data.toList ++ bz [58] ++ bz (T x.f4[i])
  rw [bz_add, bz_add]
  rfl
theorem at_item_n (x : S25) (T : S25 → List UInt8) (i : Nat) (hi : i < x.f4.length) (h7 : x.f0 ≠ 7) : bz (itemF x T i) = bz (T x.f4[i]) := by
  have e2 : x.f4.getD i z25 = x.f4[i] := by rw [List.getD_eq_getElem?_getD, List.getElem?_eq_getElem hi]; rfl
  unfold itemF
  rw [if_neg h7, e2, List.nil_append]
theorem below_growQ (w : World) (k : Nat) (os : Array Obj) : Below w.heap.size w (Sort.grow (w.drewN k) os) :=
  ⟨rfl, rfl, rfl, by show w.heap.size ≤ (w.heap ++ os).size; rw [Array.size_append]; omega, fun j hj => by show (w.heap ++ os)[j]? = w.heap[j]?; exact Array.getElem?_append_left hj⟩
theorem brackets (a b : UInt8) (l : List UInt8) : (⟨#[a]⟩ : ByteArray) ++ bz l ++ (⟨#[b]⟩ : ByteArray) = bz (a :: l ++ [b]) := by
  rw [show (⟨#[a]⟩ : ByteArray) = bz [a] from rfl, show (⟨#[b]⟩ : ByteArray) = bz [b] from rfl, bz_add, bz_add]
  rfl
set_option maxRecDepth 100000 in
set_option maxHeartbeats 2000000 in
theorem Of_step (d : Nat) (x : S25) (hh : headF x = 0) (hz : ∀ p ∈ x.f4, faultF d p = 0) (hb : bulkF (d + 1) x ≤ 100000000)
    (ih : ∀ p ∈ x.f4, ∀ (A3 : Option Addr) (c3 : Nat) (A4 : Option Addr) (c4 : Nat) (w : World), p.f3.length ≤ c3 → Kd.C Kd.string w A3 p.f3.length p.f3 → p.f4.length ≤ c4 → Kd.C k25 w A4 p.f4.length p.f4 → Glob w →
      Calls Tryd.prog 14 #[.agg #[.int .i64 p.f0, .int .i64 p.f1, .string p.f2, .slice A3 p.f3.length c3, .slice A4 p.f4.length c4]] w fun e w' => e = .returned (.string (bz (textF d p))) ∧ Below w.heap.size w w')
    (A3 : Option Addr) (c3 : Nat) (A4 : Option Addr) (c4 : Nat) (w : World) (hc3 : x.f3.length ≤ c3) (h3 : Kd.C Kd.string w A3 x.f3.length x.f3) (hc4 : x.f4.length ≤ c4) (h4 : Kd.C k25 w A4 x.f4.length x.f4) (hG : Glob w) :
      Calls Tryd.prog 14 #[.agg #[.int .i64 x.f0, .int .i64 x.f1, .string x.f2, .slice A3 x.f3.length c3, .slice A4 x.f4.length c4]] w fun e w' => e = .returned (.string (bz (textF (d + 1) x))) ∧ Below w.heap.size w w' := by
  obtain ⟨i0, hiT, hz0, hz1, hz2⟩ := info_parts info9
  have HG := Aside0.mk hG
  have H3 := Aside0.mk h3
  have H4 := Aside0.mk h4
  have HB := Aside0.mk (Below.refl w.heap.size w)
  have IH := Aside0.mk ih
  have HH := Aside0.mk hh
  clear hG h3 h4 ih hh
  go_enter Tryd.func14, Tryd.ntmps14
  go_wp2_with (first | ((with_reducible refine gate_dst (N := 1) rfl ?_); refine box_event ?hg (N := 1) ?hd (cs := #[.int .i64 x.f0, .int .i64 x.f1, .string x.f2, .slice A3 x.f3.length c3, .slice A4 x.f4.length c4]) (t := 25) ?hr ?_; (case hd => rfl); (case hg => rfl); (case hr => first | (go_simp; done) | (go_simp; rfl)); intro gb hg w2 hbox hb; have HB2 := Aside0.mk (below_step HB.out hb); have BK := Aside0.mk hbox; have GE := Aside0.mk ((by rw [hg]; exact Nat.le_refl _) : w.heap.size ≤ gb); have GL := Aside0.mk (blk_lt hbox); clear hb hbox hg; have hcz0 : w2.cell? ⟨gb, 0, none⟩ = some (.int .i64 x.f0) := (blk_cell BK.out 0).trans rfl; have hcz4 : w2.cell? ⟨gb, 4, none⟩ = some (.slice A4 x.f4.length c4) := (blk_cell BK.out 4).trans rfl))
  go_loopw [3, 10] (fun v3 v10 wr => ∃ i : Nat, v10 = .int .i64 i ∧ Aside0 (i ≤ x.f4.length) ∧ Aside0 (wr.ownsRow (gb + 1) 9 1 v3 i (itemsV x (textF d) i)) ∧ Aside0 (wr.heap[gb]? = some (.cells #[.int .i64 x.f0, .int .i64 x.f1, .string x.f2, .slice A3 x.f3.length c3, .slice A4 x.f4.length c4] 25 (0, 0))) ∧ Aside0 (Below w.heap.size w wr)) (fun _ v10 _ => x.f4.length - (intOf v10).toNat)
  case atStart => exact ⟨0, rfl, ⟨Nat.zero_le _⟩, ⟨World.ownsRow_nil _ _ _ _⟩, BK, HB2⟩
  case round =>
    obtain ⟨i, rfl, hi, HO, BK2, HBr⟩ := hrel
    have hil := hi.out
    have hln := Aside0.mk (bulk_parts hb).2.2.1
    have hcz0 : wr.cell? ⟨gb, 0, none⟩ = some (.int .i64 x.f0) := (blk_cell BK2.out 0).trans rfl
    have hcz1 : wr.cell? ⟨gb, 1, none⟩ = some (.int .i64 x.f1) := (blk_cell BK2.out 1).trans rfl
    have hcz2 : wr.cell? ⟨gb, 2, none⟩ = some (.string x.f2) := (blk_cell BK2.out 2).trans rfl
    have hcz3 : wr.cell? ⟨gb, 3, none⟩ = some (.slice A3 x.f3.length c3) := (blk_cell BK2.out 3).trans rfl
    by_cases hlt : i < x.f4.length
    · have p1 : (0 : Int) ≤ (i : Int) := Int.natCast_nonneg i
      have q1 : (i : Int) < (x.f4.length : Int) := Int.ofNat_lt.2 hlt
      have hi1 : IntKind.i64.wrap ((i : Int) + 1) = (i : Int) + 1 := by have := hln.out; unfold IntKind.wrap; simp [IntKind.signed, IntKind.bits]; omega
      obtain ⟨ad, B3, b3, B4, b4, rfl, hx0, hx1, hx2, hx3, hx4, hl3, hi3, hl4, hi4⟩ := at_T25 H4.out (i : Int) p1 q1
      rw [rd25 hlt] at hx0 hx1 hx2 hx3 hx4 hl3 hi3 hl4 hi4
      rw [Int.toNat_natCast] at hx0 hx1 hx2 hx3 hx4
      replace hx0 := (HBr.out.cell (World.block_lt_of_cell? w _ hx0)).trans hx0
      replace hx1 := (HBr.out.cell (World.block_lt_of_cell? w _ hx1)).trans hx1
      replace hx2 := (HBr.out.cell (World.block_lt_of_cell? w _ hx2)).trans hx2
      replace hx3 := (HBr.out.cell (World.block_lt_of_cell? w _ hx3)).trans hx3
      replace hx4 := (HBr.out.cell (World.block_lt_of_cell? w _ hx4)).trans hx4
      obtain ⟨P, hP⟩ : ∃ P, P = x.f4[i] := ⟨_, rfl⟩
      rw [← hP] at hx0 hx1 hx2 hx3 hx4 hl3 hi3 hl4 hi4
      have hmem : Aside0 (P ∈ x.f4) := ⟨hP ▸ List.getElem_mem hlt⟩
      have hPa := Aside0.mk hP
      clear hP
      have HI3 := Aside0.mk (Kd.C_below hi3 HBr.out)
      have HI4 := Aside0.mk (Kd.C_below hi4 HBr.out)
      have HL3 := Aside0.mk hl3
      have HL4 := Aside0.mk hl4
      clear hi3 hi4 hl3 hl4
      by_cases h7 : x.f0 = 7
      · have h7b : (x.f0 == 7) = true := beq_iff_eq.mpr h7
        have hlk : i < x.f3.length := by rw [(head_facts HH.out).2.2.1 h7]; exact hlt
        have q2 : (i : Int) < (x.f3.length : Int) := Int.ofNat_lt.2 hlk
        obtain ⟨ad3, rfl, hxk⟩ := Kd.at_string H3.out (i : Int) p1 q2
        rw [rdS, getD_str hlk, Int.toNat_natCast] at hxk
        obtain ⟨K, hK⟩ : ∃ K, K = x.f3[i] := ⟨_, rfl⟩
        rw [← hK] at hxk
        have hks : Aside0 (K.size ≤ 100000000) := ⟨hK ▸ bulk_keys hb _ (List.getElem_mem hlk)⟩
        have hit : Aside0 (bz (itemF x (textF d) i) = (quoteF K ++ (⟨#[58]⟩ : ByteArray)) ++ bz (textF d P)) := ⟨by rw [at_item x (textF d) i hlt h7 hlk, hK, hPa.out]⟩
        have hqs : Aside0 ((quoteF K).size ≤ 600000002) := ⟨by have := quoteF_le K; have := hks.out; omega⟩
        have l1 : (quoteF K).size ≤ 600000002 := hqs.out
        have l2 : (quoteF K ++ (⟨#[58]⟩ : ByteArray)).size ≤ 600000003 := by rw [ByteArray.size_append]; show (quoteF K).size + 1 ≤ _; omega
        have l3 : (bz (textF d P)).size ≤ 2000000000 := by have h1 := text_bulk d P (nums_of_fault d P (hz P hmem.out)); have h2 := (bulk_parts hb).2.2.2 P hmem.out; rw [bz_size]; omega
        clear hK h7
        go_wp2_with (first | (go_at_call 14; refine (IH.out P hmem.out B3 b3 B4 b4 _ HL3.out (Kd.C_below HI3.out (below_alloc (Below.refl _ _) _)) HL4.out (Kd.C_below HI4.out (below_alloc (Below.refl _ _) _)) (HG.out.below (below_alloc HBr.out _))).mono ?_; rintro e w5 ⟨rfl, hb5⟩; have HB5 := Aside0.mk (below_step (below_alloc HBr.out _) hb5); have BK5 := Aside0.mk (blk_below (blk_alloc BK2.out _) hb5); have HO5 := Aside0.mk (pw_own_below (HO.out.alloc _) hb5); have d0 : w5.cell? ⟨gb, 0, none⟩ = some (.int .i64 x.f0) := (blk_cell BK5.out 0).trans rfl; have d3 : w5.cell? ⟨gb, 3, none⟩ = some (.slice (some ad3) x.f3.length c3) := (blk_cell BK5.out 3).trans rfl; have dk : w5.cell? (ad3.add i) = some (.string K) := (HB5.out.cell (World.block_lt_of_cell? w _ hxk)).trans hxk;  clear hb5) | (go_at_call 21; refine (quoted_walk K (by have := hks.out; omega) _ (HG.out.below HB5.out).1).mono ?_; rintro e w6 ⟨rfl, hb6⟩; have HB6 := Aside0.mk (below_step HB5.out hb6); have BK6 := Aside0.mk (blk_below BK5.out hb6); have HO6 := Aside0.mk (pw_own_below HO5.out hb6); clear hb6) | (at_builtin; refine wpList_append_own _ rfl (.tmp 29) (.tmp 31) 22 rfl (gb + 1) 9 i0 (.string ⟨#[]⟩) 1 16 Tryd.underlying22 hiT hz0 hz1 hz2 rfl (by decide) _ _ _ rfl (HO6.out.alloc _) ⟨w6.heap.size, 0, none⟩ 1 1 [.string (quoteF K ++ (⟨#[58]⟩ : ByteArray) ++ bz (textF d P))] rfl rfl (new_cell _ _) (one_one _) (by have := hln.out; unfold maxLen; omega) (by have := hln.out; omega) (by have := below_size HB6.out; have := blk_lt BK6.out; simp; omega) ?_; intro v7 w7 ho7 hg7 _; have HO7 := Aside0.mk ho7; have BK7 := Aside0.mk (blk_grown (blk_alloc BK6.out _) hg7 (own_ne HO.out (Nat.lt_succ_self gb))); have HB7 := Aside0.mk ((HB6.out.alloc (below_size HB6.out) _).grown hg7 (by have := below_size HB6.out; simp; omega) (fun k hk => (by have := (HO.out.lt k hk).1; have := GE.out; omega))); clear ho7 hg7))
        go_roundw
        case rel => exact ⟨i + 1, by simp, ⟨hlt⟩, ⟨by
          have h := HO7.out
          rw [← hit.out, ← itemsV_succ] at h
          exact h⟩, BK7, HB7⟩
        case measure => simp [intOf]; omega
      · have h7b : (x.f0 == 7) = false := beq_eq_false_iff_ne.mpr h7
        have hit : Aside0 (bz (itemF x (textF d) i) = bz (textF d P)) := ⟨by rw [at_item_n x (textF d) i hlt h7, hPa.out]⟩
        clear h7
        go_wp2_with (first | (go_at_call 14; refine (IH.out P hmem.out B3 b3 B4 b4 _ HL3.out (Kd.C_below HI3.out (below_alloc (Below.refl _ _) _)) HL4.out (Kd.C_below HI4.out (below_alloc (Below.refl _ _) _)) (HG.out.below (below_alloc HBr.out _))).mono ?_; rintro e w5 ⟨rfl, hb5⟩; have HB5 := Aside0.mk (below_step (below_alloc HBr.out _) hb5); have BK5 := Aside0.mk (blk_below (blk_alloc BK2.out _) hb5); have HO5 := Aside0.mk (pw_own_below (HO.out.alloc _) hb5); have d0 : w5.cell? ⟨gb, 0, none⟩ = some (.int .i64 x.f0) := (blk_cell BK5.out 0).trans rfl; have d3 : w5.cell? ⟨gb, 3, none⟩ = some (.slice A3 x.f3.length c3) := (blk_cell BK5.out 3).trans rfl;  clear hb5) | (at_builtin; refine wpList_append_own _ rfl (.tmp 29) (.tmp 31) 22 rfl (gb + 1) 9 i0 (.string ⟨#[]⟩) 1 16 Tryd.underlying22 hiT hz0 hz1 hz2 rfl (by decide) _ _ _ rfl (HO5.out.alloc _) ⟨w5.heap.size, 0, none⟩ 1 1 [.string (bz (textF d P))] rfl rfl (new_cell _ _) (one_one _) (by have := hln.out; unfold maxLen; omega) (by have := hln.out; omega) (by have := below_size HB5.out; have := blk_lt BK5.out; simp; omega) ?_; intro v7 w7 ho7 hg7 _; have HO7 := Aside0.mk ho7; have BK7 := Aside0.mk (blk_grown (blk_alloc BK5.out _) hg7 (own_ne HO.out (Nat.lt_succ_self gb))); have HB7 := Aside0.mk ((HB5.out.alloc (below_size HB5.out) _).grown hg7 (by have := below_size HB5.out; simp; omega) (fun k hk => (by have := (HO.out.lt k hk).1; have := GE.out; omega))); clear ho7 hg7))
        go_roundw
        case rel => exact ⟨i + 1, by simp, ⟨hlt⟩, ⟨by
          have h := HO7.out
          rw [← hit.out, ← itemsV_succ] at h
          exact h⟩, BK7, HB7⟩
        case measure => simp [intOf]; omega
    · have hin : i = x.f4.length := by omega
      subst hin
      have hG5 := Aside0.mk (HG.out.below HBr.out)
      have htx : Aside0 (textF (d + 1) x = if x.f0 = 1 then [110, 117, 108, 108] else if x.f0 = 2 then [102, 97, 108, 115, 101] else if x.f0 = 3 then [116, 114, 117, 101] else if x.f0 = 4 then Lib.itoa x.f1 else if x.f0 = 5 then (quoteF x.f2).data.toList else if x.f0 = 6 then 91 :: accT x (textF d) x.f4.length ++ [93] else 123 :: accT x (textF d) x.f4.length ++ [125]) := ⟨by rw [textF]⟩
      have hacc : Aside0 ((accT x (textF d) x.f4.length).length ≤ 2000000000) := ⟨by have := acc_bulk d x (fun p hp => text_bulk d p (nums_of_fault d p (hz p hp))); omega⟩
      have hf0 := (head_facts HH.out).1
      have hf7 := (head_facts HH.out).2.1
      have hnum := Aside0.mk (head_facts HH.out).2.2.2.2.2.2
      have hs2 : Aside0 (x.f2.size ≤ 100000000) := ⟨(bulk_parts hb).1⟩
      obtain ⟨k, hk⟩ : ∃ k, k = x.f0 := ⟨_, rfl⟩
      rw [← hk] at hcz0 hf0 hf7
      have hkA : Aside0 (x.f0 = k) := ⟨hk.symm⟩
      clear hk
      have hcase : k = 1 ∨ k = 2 ∨ k = 3 ∨ k = 4 ∨ k = 5 ∨ k = 6 ∨ k = 7 := by omega
      clear hf0 hf7
      rcases hcase with rfl | rfl | rfl | rfl | rfl | rfl | rfl
      · go_wp2
        go_ret
        exact ⟨by rw [htx.out, hkA.out]; rfl, HBr.out⟩
      · go_wp2
        go_ret
        exact ⟨by rw [htx.out, hkA.out]; rfl, HBr.out⟩
      · go_wp2
        go_ret
        exact ⟨by rw [htx.out, hkA.out]; rfl, HBr.out⟩
      · go_wp2_with (first | (go_at_call 22; refine (Tryd.strconv_Itoa x.f1 (by have := hnum.out; omega) (by have := hnum.out; omega) _ hG5.out.2).mono ?_; rintro e w5 ⟨rfl, hgr⟩; have HB5 : Aside0 (Below w.heap.size w w5) := ⟨(by obtain ⟨q, os, rfl⟩ := hgr; exact below_step HBr.out (below_growQ _ q os))⟩; clear hgr))
        go_ret
        exact ⟨by rw [htx.out, hkA.out]; rfl, HB5.out⟩
      · go_wp2_with (first | (go_at_call 21; refine (quoted_walk x.f2 (by have := hs2.out; omega) _ hG5.out.1).mono ?_; rintro e w5 ⟨rfl, hb5⟩; have HB5 := Aside0.mk (below_step HBr.out hb5); clear hb5))
        go_ret
        exact ⟨by rw [htx.out, hkA.out]; rfl, HB5.out⟩
      · have l1 : (bz (accT x (textF d) x.f4.length)).size ≤ 2000000000 := by rw [bz_size]; exact hacc.out
        have l2 : ((⟨#[91]⟩ : ByteArray) ++ bz (accT x (textF d) x.f4.length)).size ≤ 2000000001 := by rw [ByteArray.size_append]; show 1 + _ ≤ _; omega
        go_wp2_with (first | (go_at_call 23; refine (join_walk x (textF d) x.f4.length (gb + 1) _ _ (by have := hacc.out; omega) (by have := hln.out; omega) HO.out).mono ?_; rintro e w5 ⟨rfl, hb5⟩; have HB5 := Aside0.mk (below_step HBr.out hb5); clear hb5))
        go_ret
        exact ⟨by rw [htx.out, hkA.out]; exact congrArg (fun z => Ending.returned (.string z)) (brackets 91 93 _), HB5.out⟩
      · have l1 : (bz (accT x (textF d) x.f4.length)).size ≤ 2000000000 := by rw [bz_size]; exact hacc.out
        have l2 : ((⟨#[123]⟩ : ByteArray) ++ bz (accT x (textF d) x.f4.length)).size ≤ 2000000001 := by rw [ByteArray.size_append]; show 1 + _ ≤ _; omega
        go_wp2_with (first | (go_at_call 23; refine (join_walk x (textF d) x.f4.length (gb + 1) _ _ (by have := hacc.out; omega) (by have := hln.out; omega) HO.out).mono ?_; rintro e w5 ⟨rfl, hb5⟩; have HB5 := Aside0.mk (below_step HBr.out hb5); clear hb5))
        go_ret
        exact ⟨by rw [htx.out, hkA.out]; exact congrArg (fun z => Ending.returned (.string z)) (brackets 123 125 _), HB5.out⟩
theorem Of_walk : ∀ (d : Nat) (x : S25), faultF d x = 0 → bulkF d x ≤ 100000000 → ∀ (A3 : Option Addr) (c3 : Nat) (A4 : Option Addr) (c4 : Nat) (w : World), x.f3.length ≤ c3 → Kd.C Kd.string w A3 x.f3.length x.f3 → x.f4.length ≤ c4 → Kd.C k25 w A4 x.f4.length x.f4 → Glob w →
    Calls Tryd.prog 14 #[.agg #[.int .i64 x.f0, .int .i64 x.f1, .string x.f2, .slice A3 x.f3.length c3, .slice A4 x.f4.length c4]] w fun e w' => e = .returned (.string (bz (textF d x))) ∧ Below w.heap.size w w'
  | 0, x, hf, _ => absurd hf (by simp [faultF])
  | d + 1, x, hf, hb => fun A3 c3 A4 c4 w hc3 h3 hc4 h4 hG =>
    Of_step d x (fault_parts hf).1 (fault_parts hf).2 hb (fun p hp => Of_walk d p ((fault_parts hf).2 p hp) ((bulk_parts hb).2.2.2 p hp)) A3 c3 A4 c4 w hc3 h3 hc4 h4 hG
end Go.Proofs.YtmecnjhjlhpehaaDoor.Q
