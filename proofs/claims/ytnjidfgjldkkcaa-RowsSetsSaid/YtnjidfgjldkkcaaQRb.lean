/- slices.Delete and slices.Insert at rows, walked. -/
import Derived.Test.YtnjidfgjldkkcaaQMt
import Derived.Deep.RegionLaw
import Derived.Shelf.Spec.SlicesInsertGrow
import Derived.Lib.AppendZerosOnto
namespace Go.Proofs.Ytnjidfgjldkkcaa.Q
open Go.RowKit Go.Proofs.YtnjidfgjldkkcaaW.PrintWords Go.Proofs.YtnjidfgjldkkcaaW.PrintLast Go.Proofs.YtnjidfgjldkkcaaW.PrintMore
/-- The cells of rows. -/
def rowCells (xs : List S69) : List Value := xs.flatMap fun x => [.string x.f0, .string x.f1]
theorem rowCells_length : ∀ xs : List S69, (rowCells xs).length = xs.length * 2
  | [] => rfl
  | x :: t => by
    have := rowCells_length t
    unfold rowCells at this ⊢
    rw [List.flatMap_cons, List.length_append, this, List.length_cons]
    simp only [List.length_cons, List.length_nil]
    omega
theorem rowCells_append (xs ys : List S69) : rowCells (xs ++ ys) = rowCells xs ++ rowCells ys := by unfold rowCells; rw [List.flatMap_append]
theorem rowCells_take (xs : List S69) (i : Nat) (h : i ≤ xs.length) : rowCells (xs.take i) = (rowCells xs).take (i * 2) := by
  have e := congrArg rowCells (List.take_append_drop i xs)
  rw [rowCells_append] at e
  rw [← e]
  exact (List.take_left' (by rw [rowCells_length, List.length_take, Nat.min_eq_left h])).symm
theorem rowCells_drop (xs : List S69) (i : Nat) (h : i ≤ xs.length) : rowCells (xs.drop i) = (rowCells xs).drop (i * 2) := by
  have e := congrArg rowCells (List.take_append_drop i xs)
  rw [rowCells_append] at e
  rw [← e]
  exact (List.drop_left' (by rw [rowCells_length, List.length_take, Nat.min_eq_left h])).symm
theorem rowCells_one (xs : List S69) : ∀ v ∈ rowCells xs, v.oneCell' = true := by
  intro v hv
  unfold rowCells at hv
  rw [List.mem_flatMap] at hv
  obtain ⟨x, _, hx⟩ := hv
  simp only [List.mem_cons, List.not_mem_nil, or_false] at hx
  rcases hx with rfl | rfl <;> rfl
theorem reps_cells (w : World) (base : Nat) (ok : Nat → Prop) : ∀ xs : List S69, Reps (k69.M w base ok) 2 xs (rowCells xs)
  | [] => Reps.none _ _
  | x :: t => by
    have h : Reps (k69.M w base ok) 2 [x] [.string x.f0, .string x.f1] := ⟨rfl, fun j p hj => by
      rcases j with _ | j
      · obtain rfl : x = p := by simpa using hj
        exact k69_mkM w base ok x
      · simp at hj⟩
    exact Kd.reps_append h (reps_cells w base ok t)
theorem cells_reps {w : World} {base : Nat} {ok : Nat → Prop} : ∀ (xs : List S69) (cs : List Value), Reps (k69.M w base ok) 2 xs cs → cs = rowCells xs
  | [], cs, h => List.eq_nil_of_length_eq_zero (by simpa using h.1)
  | x :: t, cs, h => by
    have h0 := k69_openM (h.2 0 x rfl)
    rw [Nat.zero_mul, List.drop_zero] at h0
    have ih := cells_reps t (cs.drop 2) ⟨by rw [List.length_drop, h.1, List.length_cons]; omega, fun j p hj => by
      have := h.2 (j + 1) p (by simpa using hj)
      rw [List.drop_drop]
      rwa [show (j + 1) * 2 = 2 + j * 2 by omega] at this⟩
    have e : cs = cs.take 2 ++ cs.drop 2 := (List.take_append_drop 2 cs).symm
    rw [e, ih]
    show cs.take 2 ++ _ = _
    rw [show cs.take 2 = [Value.string x.f0, Value.string x.f1] from h0]
    rfl
theorem row_open {w : World} {base : Nat} {ok : Nat → Prop} {v : Value} {xs : List S69} (h : k69.R 69 w base ok v xs) (hp : 0 < xs.length) :
    ∃ g cap cur, v = .slice (some ⟨g, 0, none⟩) xs.length cap ∧ base ≤ g ∧ w.heap[g]? = some (.cells cur 69 (0, 0)) ∧ xs.length ≤ cap ∧ cap ≤ maxLen ∧ cur.size = cap * 2 ∧ cur.toList.take (xs.length * 2) = rowCells xs := by
  obtain ⟨_, inner, hown, hr⟩ := h
  have e := cells_reps xs inner hr
  subst e
  rcases hown.2 with ⟨_, h0⟩ | ⟨g, cap, cur, rfl, hb, hh, hn, hc, hs, ht⟩
  · omega
  · exact ⟨g, cap, cur, rfl, hb, hh, hn, hc, hs, ht⟩
theorem row_slice {w : World} {base n c g : Nat} {ok : Nat → Prop} {xs : List S69} (h : k69.R 69 w base ok (.slice (some ⟨g, 0, none⟩) n c) xs) :
    ∃ cur, base ≤ g ∧ w.heap[g]? = some (.cells cur 69 (0, 0)) ∧ n ≤ c ∧ c ≤ maxLen ∧ cur.size = c * 2 ∧ cur.toList.take (n * 2) = rowCells xs := by
  have hn := (Kd.R_reads' h).1
  obtain ⟨_, inner, hown, hr⟩ := h
  have e := cells_reps xs inner hr
  subst e
  rcases hown.2 with ⟨h0, _⟩ | ⟨g', cap, cur, hv, hb, hh, hn', hc, hs, ht⟩
  · cases h0
  · injection hv with hv1 hv2 hv3
    injection hv1 with hv1
    injection hv1 with hv1
    subst hv1 hv3
    exact ⟨cur, hb, hh, by omega, hc, hs, by rw [hn]; exact ht⟩
theorem row_mk {w : World} {base g cap n : Nat} {cur : Array Value} {xs : List S69} (hb : base ≤ g) (hh : w.heap[g]? = some (.cells cur 69 (0, 0))) (hn : xs.length = n) (hc : n ≤ cap) (hm : cap ≤ maxLen) (hs : cur.size = cap * 2) (ht : cur.toList.take (n * 2) = rowCells xs) :
    k69.R 69 w base (fun _ => True) (.slice (some ⟨g, 0, none⟩) n cap) xs := by
  subst hn
  exact ⟨fun _ _ => trivial, rowCells xs, ⟨rowCells_length xs, .inr ⟨g, cap, cur, rfl, hb, hh, hc, hm, hs, ht⟩⟩, reps_cells _ _ _ xs⟩
theorem run_copy_cellsN {P : Program} (w : World) (dT sT ty elem : TypeId) (b o dLen dCap : Nat) (a : Addr) (sLen sCap sz : Nat) (cs : List Value)
    (hu : P.underlying dT = some (.slice elem)) (hs : (P.info? elem).map (·.size) = some sz) (hn : cs.length = Nat.min sLen dLen * sz)
    (hsrc : ∀ j v, cs[j]? = some v → w.cell? (a.add j) = some v) (hc : ∀ j, j < cs.length → (w.cell? ⟨b, o + j, none⟩).isSome = true) (hf : ∀ j, j < cs.length → w.frozen? ⟨b, o + j, none⟩ = false) (h1 : ∀ v ∈ cs, v.oneCell' = true) :
    (Builtin.copy_ #[dT, sT] ty #[.slice (some ⟨b, o, none⟩) dLen dCap, .slice (some a) sLen sCap]).run P w = .ok (goInt (Nat.min sLen dLen)) (w.setCells b o cs) := by
  have hl := run_loadCells_list (P := P) w a cs hsrc
  have hst := run_storeCells_cells (P := P) b o cs 0 w (by simpa using hc) (by simpa using hf) h1
  cases hq : P.info? elem with
  | none => simp [hq] at hs
  | some i =>
    have hi : i.size = sz := by simpa [hq] using hs
    simp [Builtin.copy_, run_underlying hu, Builtin.lenOf, Builtin.firstCells, sizeOf, typeInfo, hq, hi, ← hn, hl, hst]
theorem run_clear_rows {P : Program} (w : World) (t e ty : TypeId) (z : Value) (ht : P.underlying t = some (.slice e)) (hv : ∀ w, (zeroValue e).run P w = .ok z w) (b o n c : Nat) (hn : 0 < n)
    (hc : ∀ j, j < (Builtin.zeroCells z.cells n).toList.length → (w.cell? ⟨b, o + j, none⟩).isSome = true) (hf : ∀ j, j < (Builtin.zeroCells z.cells n).toList.length → w.frozen? ⟨b, o + j, none⟩ = false) (h1 : ∀ v ∈ (Builtin.zeroCells z.cells n).toList, v.oneCell' = true) :
    (Builtin.clear_ #[t] ty #[.slice (some ⟨b, o, none⟩) n c]).run P w = .ok (.tuple #[]) (w.setCells b o (Builtin.zeroCells z.cells n).toList) := by
  have hst := run_storeCells_cells (P := P) b o (Builtin.zeroCells z.cells n).toList 0 w (by simpa using hc) (by simpa using hf) h1
  simp only [Nat.add_zero] at hst
  obtain ⟨m, rfl⟩ : ∃ m, n = m + 1 := ⟨n - 1, by omega⟩
  simp [Builtin.clear_, run_underlying ht, hv, hst]
/-- How what changes rows of one's own ends. -/
def RowsPost (base : Nat) (w : World) (ys : List S69) (e : Ending) (w' : World) : Prop := ∃ v', e = .returned v' ∧ k69.R 69 w' base (fun _ => True) v' ys ∧ ModT [69] base w w'
theorem setCells_mod {w : World} {g base o : Nat} {cur : Array Value} (vs : List Value) (hh : w.heap[g]? = some (.cells cur 69 (0, 0))) (hb : base ≤ g) : ModT [69] base w (w.setCells g o vs) := by
  obtain ⟨s1, s2, s3, s4⟩ := setCells_same g vs o w
  refine ⟨s1, s2, s3, by rw [s4]; exact Nat.le_refl _, fun k hk => ?_⟩
  by_cases e : k = g
  · subst e; exact .inr ⟨hb, 69, by simp, cur, hh⟩
  · exact .inl (setCells_far vs o k e)
set_option maxRecDepth 100000 in
set_option maxHeartbeats 4000000 in
theorem delete_walk (base : Nat) (v : Value) (xs : List S69) (i : Nat) (w : World) (hR : k69.R 69 w base (fun _ => True) v xs) (hi : i < xs.length) (hB : base ≤ w.heap.size) (hl : xs.length ≤ 1000000) :
    Calls Try.prog 70 #[v, .int .i64 (i : Int), .int .i64 ((i + 1 : Nat) : Int)] w (RowsPost base w (xs.eraseIdx i)) := by
  obtain ⟨g, c, cur, rfl, hg, hh, hn, hm, hs, ht⟩ := row_open hR (by omega)
  have HR := Aside0.mk hR
  obtain ⟨m, hmm⟩ : ∃ m, xs.length = m + 1 := ⟨xs.length - 1, by omega⟩
  rw [hmm] at HR hn hl ⊢
  unfold maxLen at hm
  have him : i ≤ m := by omega
  have hcm : ¬ c = m := by omega
  have hic : i ≤ c := by omega
  have him1 : i ≤ m + 1 := by omega
  have h01 : (0 : Int) ≤ (i : Int) + 1 := by omega
  have HH := Aside0.mk hh
  have HG := Aside0.mk hg
  have HBs := Aside0.mk hB
  clear hR ht hs hi hh hg hB
  replace hmm := Aside0.mk hmm
  go_enter Try.func70, Try.ntmps70
  go_wp2
  go_region_law (refine Kd.R_delete_step k69 (w0 := w) base (by simp [Region.wanted]) (.tmp 22) (.tmp 25) 24 69 rfl Try.underlying24 (by kernel_rfl) (g := g) (n := m + 1) (c := c) (k := i) (m := m - i) (xs := xs) (ok := fun _ => True) rfl rfl (by show _ = (if c = i + 1 then _ else some ((⟨g, 0, none⟩ : Addr).add ((i + 1) * 2))); rw [add_plain]) (by omega) (by exact Kd.R_drewN HR.out _) (by omega) (by exact pw_below_drewN (Below.refl _ _) _) HBs.out ?_; intro w1 ho hb hg; have HO := Aside0.mk ho; have HB := Aside0.mk hb; have HG1 := Aside0.mk hg; clear ho hb hg)
  obtain ⟨cur1, k1, k2, k3, k4, k5, k6⟩ := row_slice HO.out
  have hz69 : ∀ w, (zeroValue 69).run Try.prog w = .ok (.agg #[.string ⟨#[]⟩, .string ⟨#[]⟩]) w := fun w => by
    obtain ⟨i0, hi0, hz⟩ := Option.map_eq_some_iff.1 info69
    simp only [Prod.mk.injEq] at hz
    simp [zeroValue, typeInfo, hi0, hz.1]
  have hz : (Builtin.zeroCells (Value.agg #[Value.string ⟨#[]⟩, Value.string ⟨#[]⟩]).cells 1).toList = [Value.string ⟨#[]⟩, Value.string ⟨#[]⟩] := by kernel_rfl
  have hcl : ∀ ty, (Builtin.clear_ #[24] ty #[.slice (some ⟨g, m * 2, none⟩) 1 (c - m)]).run Try.prog w1 = .ok (.tuple #[]) (w1.setCells g (m * 2) [.string ⟨#[]⟩, .string ⟨#[]⟩]) := fun ty => by
    have := run_clear_rows w1 24 69 ty _ Try.underlying24 hz69 g (m * 2) 1 (c - m) (by omega) (fun j hj => by
      rw [hz] at hj
      have hj' : j < 2 := hj
      rw [blk_cell k2, Array.getElem?_eq_getElem (by omega)]; rfl) (fun j _ => blk_frozen k2 _) (fun v hv => by
      rw [hz] at hv
      simp only [List.mem_cons, List.not_mem_nil, or_false] at hv
      rcases hv with rfl | rfl <;> rfl)
    rwa [hz] at this
  have hmod : Aside0 (ModT [69] base w w1) := ⟨⟨HG1.out.os, HG1.out.tape, HG1.out.output, HG1.out.size, fun k hk => by
    by_cases e : k = g
    · subst e; exact .inr ⟨HG.out, 69, by simp, cur, HH.out⟩
    · exact .inl (HG1.out.block k hk (fun he => e (by injection he)))⟩⟩
  have hfin : Aside0 (RowsPost base w (xs.eraseIdx i) (.returned (.slice (some ⟨g, 0, none⟩) m c)) (w1.setCells g (m * 2) [.string ⟨#[]⟩, .string ⟨#[]⟩])) := ⟨by
    obtain ⟨cur2, j1, j2, j3⟩ := setCells_row [Value.string ⟨#[]⟩, Value.string ⟨#[]⟩] (m * 2) w1 cur1 k2 (by simp; omega)
    have hel : (xs.eraseIdx i).length = m := by rw [List.length_eraseIdx_of_lt (by have := hmm.out; omega), hmm.out]; omega
    refine ⟨_, rfl, row_mk HG.out j1 hel (by omega) (by unfold maxLen; omega) (by rw [j2, k5]) ?_, hmod.out.trans (setCells_mod _ k2 HG.out)⟩
    rw [j3, List.append_assoc, List.take_left' (by rw [List.length_take, Array.length_toList]; omega)]
    have := k6
    rwa [Nat.add_sub_cancel] at this⟩
  clear k1 k2 k3 k4 k5 k6 hz69 hz
  by_cases hcc : c = i + 1
  · subst hcc
    go_wp2
    go_ret
    exact hfin.out
  · go_wp2
    go_ret
    exact hfin.out
/-- A row more, at a place. -/
def insRow (xs : List S69) (i : Nat) (x : S69) : List S69 := xs.take i ++ x :: xs.drop i
theorem insRow_length (xs : List S69) (i : Nat) (x : S69) (h : i ≤ xs.length) : (insRow xs i x).length = xs.length + 1 := by
  unfold insRow; rw [List.length_append, List.length_cons, List.length_take, List.length_drop]; omega
theorem insRow_cells (xs : List S69) (i : Nat) (x : S69) (h : i ≤ xs.length) : rowCells (insRow xs i x) = (rowCells xs).take (i * 2) ++ [.string x.f0, .string x.f1] ++ (rowCells xs).drop (i * 2) := by
  unfold insRow
  rw [rowCells_append, rowCells_take xs i h, ← rowCells_drop xs i h, List.append_assoc]
  rfl
theorem hov_run (w : World) (g o la ca lb cb vb : Nat) (cur : Array Value) (x : S69) (hh : w.heap[g]? = some (.cells cur 69 (0, 0))) (hx : w.heap[vb]? = some (.cells #[.string x.f0, .string x.f1] 69 (0, 0))) (hne : vb ≠ g) (hc : cur.size ≠ 0) :
    (callFunc 84 #[.slice (some ⟨vb, 0, none⟩) la ca, .slice (some ⟨g, o, none⟩) lb cb]).run Try.prog w = .ok (.value (.bool false)) w := by
  rw [run_callFunc_extern Try.func84 (by kernel_rfl) (by kernel_rfl) (by kernel_rfl) (e := Extern.SlicesOverlaps.overlaps #[24, 24] #[4]) (by kernel_rfl),
    Lib.run_overlaps_apart w 24 4 69 Try.underlying24 2 (fun w => by
      obtain ⟨i0, hi0, hz⟩ := Option.map_eq_some_iff.1 info69
      simp only [Prod.mk.injEq] at hz
      simp [Go.sizeOf, typeInfo, hi0, hz.2.1]) ⟨vb, 0, none⟩ ⟨g, o, none⟩ la ca lb cb hne 69 69 2 cur.size (by simp [World.shape?, hx]) (by simp [World.shape?, hh]) hc (blk_frozen hx 0) (blk_frozen hx 2)]
  rfl
theorem oneRow {w : World} {vb : Nat} {x : S69} (hx : w.heap[vb]? = some (.cells #[.string x.f0, .string x.f1] 69 (0, 0))) : k69.C w (some ⟨vb, 0, none⟩) 1 [x] := by
  refine ⟨rfl, by omega, fun _ => ⟨_, rfl, fun j p hj => ?_⟩⟩
  rcases j with _ | j
  · obtain rfl : x = p := by simpa using hj
    refine ⟨_, rfl, k69_mk w x, fun i u hu => ?_⟩
    rw [Nat.zero_mul, Nat.zero_add, add_plain, blk_cell hx]
    simpa using hu
  · simp at hj
theorem k69_KM {w : World} {base : Nat} {ok : Nat → Prop} (x : S69) (cs : List Value) (h : k69.K w x cs) : k69.M w base ok x cs := by
  rw [k69_open h]; exact k69_mkM w base ok x
set_option maxRecDepth 100000 in
set_option maxHeartbeats 4000000 in
theorem insert_end (base : Nat) (v : Value) (xs : List S69) (x : S69) (vb : Nat) (w : World) (hR : k69.R 69 w base (fun _ => True) v xs) (hx : w.heap[vb]? = some (.cells #[.string x.f0, .string x.f1] 69 (0, 0))) (hB : base ≤ w.heap.size) (hl : xs.length ≤ 1000000) :
    Calls Try.prog 71 #[v, .int .i64 (xs.length : Int), .slice (some ⟨vb, 0, none⟩) 1 1] w (RowsPost base w (insRow xs xs.length x)) := by
  obtain ⟨A, c, rfl⟩ := Kd.R_slice hR
  have hcap := (Kd.R_reads' hR).2.1
  have HR := Aside0.mk hR
  have HX := Aside0.mk (oneRow hx)
  have HBs := Aside0.mk hB
  have he : Aside0 (insRow xs xs.length x = xs ++ [x]) := ⟨by unfold insRow; rw [List.take_length, List.drop_length]⟩
  clear hR hx hB
  by_cases hcc : c = xs.length
  · subst hcc
    go_enter Try.func71, Try.ntmps71
    go_wp2_with ((with_reducible refine gate_builtin (b := .append) (xs := #[.tmp 23, .tmp 24]) rfl ?_); at_builtin; refine Kd.R_append_rows k69 (w0 := w) base rfl (.tmp 23) (.tmp 24) 24 69 (.agg #[.string ⟨#[]⟩, .string ⟨#[]⟩]) 32 rfl Try.underlying24 info69 rfl (by decide) (by omega) (.slice A xs.length _) xs [x] (some ⟨vb, 0, none⟩) 1 1 (fun _ => True) (fun _ => False) rfl rfl HR.out HX.out k69_KM (fun _ h => h.elim) (fun _ _ => trivial) (Below.refl _ _) HBs.out (by omega) ?_; intro v1 w1 ho hb hg hat; obtain ⟨A1, c1, rfl⟩ := Kd.R_slice ho; rw [List.length_append, List.length_singleton] at ho; have HO := Aside0.mk ho; have HM := Aside0.mk (ModT.grown (T := [69]) hg HR.out (by simp) (Nat.le_refl base)); clear ho hb hg hat)
    go_ret
    rw [he.out]
    exact ⟨_, rfl, HO.out, HM.out⟩
  · skip
    go_enter Try.func71, Try.ntmps71
    go_wp2_with ((with_reducible refine gate_builtin (b := .append) (xs := #[.tmp 23, .tmp 24]) rfl ?_); at_builtin; refine Kd.R_append_rows k69 (w0 := w) base rfl (.tmp 23) (.tmp 24) 24 69 (.agg #[.string ⟨#[]⟩, .string ⟨#[]⟩]) 32 rfl Try.underlying24 info69 rfl (by decide) (by omega) (.slice A xs.length _) xs [x] (some ⟨vb, 0, none⟩) 1 1 (fun _ => True) (fun _ => False) rfl rfl HR.out HX.out k69_KM (fun _ h => h.elim) (fun _ _ => trivial) (Below.refl _ _) HBs.out (by omega) ?_; intro v1 w1 ho hb hg hat; obtain ⟨A1, c1, rfl⟩ := Kd.R_slice ho; rw [List.length_append, List.length_singleton] at ho; have HO := Aside0.mk ho; have HM := Aside0.mk (ModT.grown (T := [69]) hg HR.out (by simp) (Nat.le_refl base)); clear ho hb hg hat)
    go_ret
    rw [he.out]
    exact ⟨_, rfl, HO.out, HM.out⟩
set_option maxRecDepth 100000 in
set_option maxHeartbeats 4000000 in
theorem insert_room (base : Nat) (g c n : Nat) (xs : List S69) (i : Nat) (x : S69) (vb : Nat) (w : World) (hR : k69.R 69 w base (fun _ => True) (.slice (some ⟨g, 0, none⟩) n c) xs) (hi : i < n) (hx : w.heap[vb]? = some (.cells #[.string x.f0, .string x.f1] 69 (0, 0))) (hvb : vb ≠ g) (hl : n ≤ 1000000) (hroom : n + 1 ≤ c) :
    Calls Try.prog 71 #[.slice (some ⟨g, 0, none⟩) n c, .int .i64 (i : Int), .slice (some ⟨vb, 0, none⟩) 1 1] w (RowsPost base w (insRow xs i x)) := by
  have hxn : xs.length = n := (Kd.R_reads' hR).1.symm
  obtain ⟨cur, hg, hh, hn, hm, hs, ht⟩ := row_slice hR
  unfold maxLen at hm
  obtain ⟨cs, hcs⟩ : ∃ cs, cs = rowCells xs := ⟨_, rfl⟩
  have hcl : cs.length = n * 2 := by rw [hcs, rowCells_length, hxn]
  have h1c : ∀ u ∈ cs, u.oneCell' = true := hcs ▸ rowCells_one xs
  have hic := insRow_cells xs i x (by omega)
  rw [← hcs] at ht hic
  have hcell : ∀ j u, cs[j]? = some u → w.cell? ⟨g, j, none⟩ = some u := fun j u hj => by
    rw [blk_cell hh, ← Array.getElem?_toList]
    rw [← ht, List.getElem?_take] at hj
    split at hj
    · exact hj
    · cases hj
  have hsp : ∀ j, j < c * 2 → (w.cell? ⟨g, j, none⟩).isSome = true := fun j hj => by rw [blk_cell hh, Array.getElem?_eq_getElem (by omega)]; rfl
  have hsz : (Try.prog.info? 69).map (·.size) = some 2 := by kernel_rfl
  have hdl : (cs.drop (i * 2)).length = (n - i) * 2 := by rw [List.length_drop, hcl]; omega
  obtain ⟨W1, hW1⟩ : ∃ W1, W1 = w.drew.setCells g ((i + 1) * 2) (cs.drop (i * 2)) := ⟨_, rfl⟩
  have hcp1 : ∀ ty dc sc, (Builtin.copy_ #[24, 24] ty #[.slice (some ⟨g, (i + 1) * 2, none⟩) (n - i) dc, .slice (some ⟨g, i * 2, none⟩) (n + 1 - i) sc]).run Try.prog w.drew = .ok (goInt (Nat.min (n + 1 - i) (n - i))) W1 := fun ty dc sc => by
    rw [hW1]
    exact run_copy_cellsN w.drew 24 24 ty 69 g ((i + 1) * 2) (n - i) dc ⟨g, i * 2, none⟩ (n + 1 - i) sc 2 (cs.drop (i * 2)) Try.underlying24 hsz (by rw [hdl, show Nat.min (n + 1 - i) (n - i) = n - i from Nat.min_eq_right (by omega)])
      (fun j u hj => by rw [add_at]; exact hcell (i * 2 + j) u (by rwa [List.getElem?_drop] at hj))
      (fun j hj => by exact hsp _ (by omega)) (fun j _ => by exact blk_frozen hh _) (fun u hu => h1c u (List.mem_of_mem_drop hu))
  obtain ⟨cur1, j1, j2, j3⟩ := setCells_row (cs.drop (i * 2)) ((i + 1) * 2) w.drew cur hh (by rw [hdl]; omega)
  rw [← hW1] at j1
  have hx1 : W1.heap[vb]? = some (.cells #[.string x.f0, .string x.f1] 69 (0, 0)) := by rw [hW1]; exact (setCells_far _ _ vb hvb).trans hx
  obtain ⟨W2, hW2⟩ : ∃ W2, W2 = W1.setCells g (i * 2) [.string x.f0, .string x.f1] := ⟨_, rfl⟩
  have hcp2 : ∀ ty dc, (Builtin.copy_ #[24, 24] ty #[.slice (some ⟨g, i * 2, none⟩) (n + 1 - i) dc, .slice (some ⟨vb, 0, none⟩) 1 1]).run Try.prog W1 = .ok (goInt (Nat.min 1 (n + 1 - i))) W2 := fun ty dc => by
    rw [hW2]
    exact run_copy_cellsN W1 24 24 ty 69 g (i * 2) (n + 1 - i) dc ⟨vb, 0, none⟩ 1 1 2 [.string x.f0, .string x.f1] Try.underlying24 hsz (by rw [show Nat.min 1 (n + 1 - i) = 1 from Nat.min_eq_left (by omega)]; rfl)
      (fun j u hj => by rw [add_plain, blk_cell hx1]; simpa using hj)
      (fun j hj => by have hj' : j < 2 := hj; rw [blk_cell j1, Array.getElem?_eq_getElem (by omega)]; rfl) (fun j _ => by exact blk_frozen j1 _) (fun u hu => by simp only [List.mem_cons, List.not_mem_nil, or_false] at hu; rcases hu with rfl | rfl <;> rfl)
  have hov : ∀ o lb cb, (callFunc 84 #[.slice (some ⟨vb, 0, none⟩) 1 1, .slice (some ⟨g, o, none⟩) lb cb]).run Try.prog w = .ok (.value (.bool false)) w := fun o lb cb => hov_run w g o 1 1 lb cb vb cur x hh hx hvb (by omega)
  have hfin : Aside0 (RowsPost base w (insRow xs i x) (.returned (.slice (some ⟨g, 0, none⟩) (n + 1) c)) W2) := ⟨by
    obtain ⟨cur2, q1, q2, q3⟩ := setCells_row [Value.string x.f0, Value.string x.f1] (i * 2) W1 cur1 j1 (by simp; omega)
    rw [← hW2] at q1
    refine ⟨_, rfl, row_mk hg q1 (by rw [insRow_length xs i x (by omega), hxn]) hroom (by unfold maxLen; omega) (by omega) ?_, ?_⟩
    · have e1 : cur.toList.take (i * 2) = cs.take (i * 2) := by rw [← ht, List.take_take, Nat.min_eq_left (by omega)]
      have l1 : (cur.toList.take ((i + 1) * 2)).length = (i + 1) * 2 := by rw [List.length_take, Array.length_toList]; omega
      have e2 : cur1.toList.take (i * 2) = cs.take (i * 2) := by
        rw [j3, List.append_assoc, List.take_append_of_le_length (by omega), List.take_take, Nat.min_eq_left (by omega), e1]
      have e3 : cur1.toList.drop (i * 2 + 2) = cs.drop (i * 2) ++ cur.toList.drop ((i + 1) * 2 + (cs.drop (i * 2)).length) := by
        rw [j3, List.append_assoc, List.drop_append_of_le_length (by omega), List.drop_of_length_le (by omega), List.nil_append]
      rw [q3, e2]
      show List.take _ (_ ++ cur1.toList.drop (i * 2 + 2)) = _
      rw [e3, hic, ← List.append_assoc]
      exact List.take_left' (by simp only [List.length_append, List.length_take, List.length_drop, List.length_cons, List.length_nil, hcl]; omega)
    · rw [hW2]
      refine ModT.trans ?_ (setCells_mod _ j1 hg)
      rw [hW1]
      exact (ModT.of_below (below_drew (Below.refl _ _))).trans (setCells_mod _ hh hg)⟩
  have hii : ¬ i = n := by omega
  have hii2 : ¬ (i : Int) = (n : Int) := by omega
  have hca : ¬ c = i := by omega
  have hcb : ¬ c = i + 1 := by omega
  have hrm : ¬ (c : Int) < (n : Int) + 1 := by omega
  have hrm2 : (n : Int) + 1 ≤ (c : Int) := by omega
  have hin : i ≤ n := by omega
  have hin1 : i ≤ n + 1 := by omega
  have h01 : (0 : Int) ≤ (i : Int) + 1 := by omega
  have h02 : (0 : Int) ≤ (n : Int) + 1 := by omega
  have h03 : (i : Int) ≤ (n : Int) + 1 := by omega
  have hw1 : IntKind.i64.wrap ((i : Int) + 1) = (i : Int) + 1 := by rw [IntKind.wrap_i64]; omega
  have htn : ((i : Int) + 1).toNat = i + 1 := by omega
  clear hR hh hx hx1 ht hcs hic hcell hsp hdl j1 j2 j3 hW1 hW2 h1c hsz hs
  go_enter Try.func71, Try.ntmps71
  go_wp2_with (simp only [hov])
  go_region_law (refine step_copy_runI rfl _ _ 24 24 rfl _ _ (by simp [Act.eval, Act.put]) (by simp [Act.eval, Act.put]) (hcp1 _ _ _) ?_)
  go_wp2_with (at_builtin; refine wpList_copy_runI _ rfl _ _ 24 24 rfl _ _ rfl rfl (hcp2 _ _) ?_)
  go_ret
  exact hfin.out
set_option maxRecDepth 100000 in
set_option maxHeartbeats 4000000 in
theorem insert_grow (base : Nat) (g c n : Nat) (xs : List S69) (i : Nat) (x : S69) (vb : Nat) (w : World) (hR : k69.R 69 w base (fun _ => True) (.slice (some ⟨g, 0, none⟩) n c) xs) (hi : i < n) (hx : w.heap[vb]? = some (.cells #[.string x.f0, .string x.f1] 69 (0, 0))) (hl : n ≤ 1000000) (hroom : c < n + 1) (hB : base ≤ w.heap.size) :
    Calls Try.prog 71 #[.slice (some ⟨g, 0, none⟩) n c, .int .i64 (i : Int), .slice (some ⟨vb, 0, none⟩) 1 1] w (RowsPost base w (insRow xs i x)) := by
  have hxn : xs.length = n := (Kd.R_reads' hR).1.symm
  obtain ⟨cur, hg, hh, hn, hm, hs, ht⟩ := row_slice hR
  unfold maxLen at hm
  obtain ⟨cs, hcs⟩ : ∃ cs, cs = rowCells xs := ⟨_, rfl⟩
  have hcl : cs.length = n * 2 := by rw [hcs, rowCells_length, hxn]
  have h1c : ∀ u ∈ cs, u.oneCell' = true := hcs ▸ rowCells_one xs
  have hic := insRow_cells xs i x (by omega)
  rw [← hcs] at ht hic
  have hcell : ∀ j u, cs[j]? = some u → w.cell? ⟨g, j, none⟩ = some u := fun j u hj => by
    rw [blk_cell hh, ← Array.getElem?_toList]
    rw [← ht, List.getElem?_take] at hj
    split at hj
    · exact hj
    · cases hj
  have hsz : (Try.prog.info? 69).map (·.size) = some 2 := by kernel_rfl
  have hdl : (cs.drop (i * 2)).length = (n - i) * 2 := by rw [List.length_drop, hcl]; omega
  have htl : (cs.take (i * 2)).length = i * 2 := by rw [List.length_take, hcl]; omega
  have hvw : vb < w.heap.size := blk_lt hx
  have hgw : g < w.heap.size := blk_lt hh
  obtain ⟨i0, hi0, hz⟩ := Option.map_eq_some_iff.1 info69
  simp only [Prod.mk.injEq] at hz
  obtain ⟨hz0, hzs, hzb⟩ := hz
  have hold : (Builtin.firstCells i0.size i (.slice (some ⟨g, 0, none⟩) i c)).run Try.prog w.drew = .ok (cs.take (i * 2)).toArray w.drew := by
    rw [hzs]
    exact run_firstCells_some (w := w.drew) 2 i ⟨g, 0, none⟩ i c (cs.take (i * 2)) htl (fun j u hj => by
      rw [add_plain]
      rw [List.getElem?_take] at hj
      split at hj
      · exact hcell j u hj
      · cases hj)
  obtain ⟨G, hG⟩ : ∃ G, G = grownCap w (n + 1) c 69 := ⟨_, rfl⟩
  have hGn : n + 1 ≤ G := by rw [hG]; exact grownCap_ge w _ _ _
  have hGm : G ≤ 9223372036854775807 := by
    have := grownCap_le_maxLen w (n + 1) c 69 (by unfold maxLen; omega)
    rw [← hG] at this
    unfold maxLen at this
    omega
  obtain ⟨ROW, hROW⟩ : ∃ ROW : Array Value, ROW = (cs.take (i * 2)).toArray ++ Builtin.zeroCells (Value.agg #[.string ⟨#[]⟩, .string ⟨#[]⟩]).cells (n + 1 - i) ++ Builtin.zeroCells (Value.agg #[.string ⟨#[]⟩, .string ⟨#[]⟩]).cells (G - (n + 1)) := ⟨_, rfl⟩
  have hzl : ∀ k, (Builtin.zeroCells (Value.agg #[.string ⟨#[]⟩, .string ⟨#[]⟩]).cells k).size = k * 2 := fun k => by
    simp [Builtin.zeroCells, Value.cells]
  have hRl : ROW.size = G * 2 := by
    rw [hROW, Array.size_append, Array.size_append, hzl, hzl, List.size_toArray, htl]
    omega
  have hRt : ROW.toList.take (i * 2) = cs.take (i * 2) := by
    rw [hROW, Array.toList_append, Array.toList_append, List.append_assoc]
    exact List.take_left' htl
  obtain ⟨W1, hW1⟩ : ∃ W1, W1 = w.drew.alloc (.cells ROW 69) := ⟨_, rfl⟩
  have hik : i + (n + 1 - i) = n + 1 := by omega
  have hrz : ∀ ty, (Builtin.append_ #[24, 3] ty #[.slice (some ⟨g, 0, none⟩) i c, .int .i64 ((n : Int) + 1 - (i : Int))]).run Try.prog w = .ok (.slice (some ⟨w.heap.size, 0, none⟩) (n + 1) G) W1 := fun ty => by
    have h := Lib.run_append_grow_zeros w 24 3 ty 69 i0 _ .i64 .i64 Try.underlying24 Try.underlying3 hi0 hz0 (some ⟨g, 0, none⟩) i c (cs.take (i * 2)) hold (n + 1 - i) (by omega) (by omega) (by omega) (by omega) (by rw [hzb]; omega) (by rw [hzb, hik]; exact growslice_fits hroom (by omega))
    rw [hik, ← hG, ← hROW, ← hW1] at h
    rw [show (n : Int) + 1 - (i : Int) = ((n + 1 - i : Nat) : Int) by omega]
    exact h
  have hh1 : W1.heap[w.heap.size]? = some (.cells ROW 69 (0, 0)) := by rw [hW1]; exact blk_new w.drew _
  have hx1 : W1.heap[vb]? = some (.cells #[.string x.f0, .string x.f1] 69 (0, 0)) := by rw [hW1]; exact blk_alloc (blk_drew hx) _
  have hg1 : W1.heap[g]? = some (.cells cur 69 (0, 0)) := by rw [hW1]; exact blk_alloc (blk_drew hh) _
  have hM1 : ModT [69] base w W1 := by rw [hW1]; exact (ModT.of_below (below_drew (Below.refl _ _))).trans (ModT.alloc _ _ _ _)
  obtain ⟨W2, hW2⟩ : ∃ W2, W2 = W1.setCells w.heap.size (i * 2) [.string x.f0, .string x.f1] := ⟨_, rfl⟩
  have hcpA : ∀ ty dc, (Builtin.copy_ #[24, 24] ty #[.slice (some ⟨w.heap.size, i * 2, none⟩) (n + 1 - i) dc, .slice (some ⟨vb, 0, none⟩) 1 1]).run Try.prog W1 = .ok (goInt (Nat.min 1 (n + 1 - i))) W2 := fun ty dc => by
    rw [hW2]
    exact run_copy_cellsN W1 24 24 ty 69 w.heap.size (i * 2) (n + 1 - i) dc ⟨vb, 0, none⟩ 1 1 2 [.string x.f0, .string x.f1] Try.underlying24 hsz (by rw [show Nat.min 1 (n + 1 - i) = 1 from Nat.min_eq_left (by omega)]; rfl)
      (fun j u hj => by rw [add_plain, blk_cell hx1]; simpa using hj)
      (fun j hj => by have hj' : j < 2 := hj; rw [blk_cell hh1, Array.getElem?_eq_getElem (by omega)]; rfl) (fun j _ => by exact blk_frozen hh1 _) (fun u hu => by simp only [List.mem_cons, List.not_mem_nil, or_false] at hu; rcases hu with rfl | rfl <;> rfl)
  obtain ⟨cur2, q1, q2, q3⟩ := setCells_row [Value.string x.f0, Value.string x.f1] (i * 2) W1 ROW hh1 (by simp; omega)
  rw [← hW2] at q1
  have hg2 : W2.heap[g]? = some (.cells cur 69 (0, 0)) := by rw [hW2]; exact (setCells_far _ _ g (by omega)).trans hg1
  have hM2 : ModT [69] base w W2 := by rw [hW2]; exact hM1.trans (setCells_mod _ hh1 hB)
  have hz2 : W2.heap.size = W1.heap.size := by rw [hW2]; exact (setCells_same _ _ _ _).2.2.2
  obtain ⟨W3, hW3⟩ : ∃ W3, W3 = W2.drew.setCells w.heap.size ((i + 1) * 2) (cs.drop (i * 2)) := ⟨_, rfl⟩
  have hcell2 : ∀ j u, cs[j]? = some u → W2.drew.cell? ⟨g, j, none⟩ = some u := fun j u hj => by
    show W2.cell? _ = _
    have h1 := hcell j u hj
    rw [blk_cell hh] at h1
    rw [blk_cell hg2]
    exact h1
  have hcpB : ∀ ty dc sc, (Builtin.copy_ #[24, 24] ty #[.slice (some ⟨w.heap.size, (i + 1) * 2, none⟩) (n - i) dc, .slice (some ⟨g, i * 2, none⟩) (n - i) sc]).run Try.prog W2.drew = .ok (goInt (Nat.min (n - i) (n - i))) W3 := fun ty dc sc => by
    rw [hW3]
    exact run_copy_cellsN W2.drew 24 24 ty 69 w.heap.size ((i + 1) * 2) (n - i) dc ⟨g, i * 2, none⟩ (n - i) sc 2 (cs.drop (i * 2)) Try.underlying24 hsz (by rw [hdl, show Nat.min (n - i) (n - i) = n - i from Nat.min_eq_left (Nat.le_refl _)])
      (fun j u hj => by rw [add_at]; exact hcell2 (i * 2 + j) u (by rwa [List.getElem?_drop] at hj))
      (fun j hj => by
        have : W2.drew.cell? ⟨w.heap.size, (i + 1) * 2 + j, none⟩ = cur2[(i + 1) * 2 + j]? := blk_cell q1 _
        rw [this, Array.getElem?_eq_getElem (by omega)]; rfl) (fun j _ => by exact blk_frozen q1 _) (fun u hu => h1c u (List.mem_of_mem_drop hu))
  have hfin : Aside0 (RowsPost base w (insRow xs i x) (.returned (.slice (some ⟨w.heap.size, 0, none⟩) (n + 1) G)) W3) := ⟨by
    obtain ⟨cur3, r1, r2, r3⟩ := setCells_row (cs.drop (i * 2)) ((i + 1) * 2) W2.drew cur2 q1 (by omega)
    rw [← hW3] at r1
    refine ⟨_, rfl, row_mk hB r1 (by rw [insRow_length xs i x (by omega), hxn]) hGn (by unfold maxLen; omega) (by omega) ?_, ?_⟩
    · have l1 : (ROW.toList.take (i * 2)).length = i * 2 := by rw [hRt, htl]
      have e1 : cur2.toList.take ((i + 1) * 2) = cs.take (i * 2) ++ [Value.string x.f0, Value.string x.f1] := by
        rw [q3, hRt]
        exact List.take_left' (by rw [List.length_append, htl]; simp; omega)
      rw [r3, e1, hic]
      exact List.take_left' (by simp only [List.length_append, List.length_take, List.length_drop, List.length_cons, List.length_nil, hcl]; omega)
    · rw [hW3]
      exact hM2.trans ((ModT.of_below (below_drew (Below.refl _ _))).trans (setCells_mod _ q1 hB))⟩
  have hii : ¬ i = n := by omega
  have hii2 : ¬ (i : Int) = (n : Int) := by omega
  have hca : ¬ c = i := by omega
  have hGi : ¬ G = i := by omega
  have hGi1 : ¬ G = i + 1 := by omega
  have hrm : (c : Int) < (n : Int) + 1 := by omega
  have hin : i ≤ n := by omega
  have hin1 : i ≤ n + 1 := by omega
  have hicc : i ≤ c := by omega
  have h01 : (0 : Int) ≤ (i : Int) + 1 := by omega
  have h02 : (0 : Int) ≤ (n : Int) + 1 := by omega
  have h03 : (i : Int) ≤ (n : Int) + 1 := by omega
  have hw1 : IntKind.i64.wrap ((i : Int) + 1) = (i : Int) + 1 := by rw [IntKind.wrap_i64]; omega
  have htn : ((i : Int) + 1).toNat = i + 1 := by omega
  clear hR hh hx hx1 ht hcs hic hcell hcell2 hdl htl hG hROW hRl hRt hh1 hg1 hg2 hM1 hM2 hz2 hold hik hz0 hzs hzb hi0 hzl q1 q2 q3 hW1 hW2 hW3 h1c hsz hs
  go_enter Try.func71, Try.ntmps71
  go_wp2_with (first | (at_builtin; refine Lib.wpList_append_run _ rfl _ _ _ _ rfl _ _ rfl rfl _ _ (hrz _) ?_) | (at_builtin; refine wpList_copy_runI _ rfl _ _ 24 24 rfl _ _ rfl rfl (hcpA _ _) ?_))
  go_region_law (refine step_copy_runI rfl _ _ 24 24 rfl _ _ (by simp [Act.eval, Act.put]) (by simp [Act.eval, Act.put]) (hcpB _ _ _) ?_)
  go_wp2
  go_ret
  exact hfin.out
/-- slices.Insert of one row, whatever the room. -/
theorem insert_walk (base : Nat) (v : Value) (xs : List S69) (i : Nat) (x : S69) (vb : Nat) (w : World) (hR : k69.R 69 w base (fun _ => True) v xs) (hi : i ≤ xs.length) (hx : w.heap[vb]? = some (.cells #[.string x.f0, .string x.f1] 69 (0, 0))) (hvb : some vb ≠ v.ownBlock) (hB : base ≤ w.heap.size) (hl : xs.length ≤ 1000000) :
    Calls Try.prog 71 #[v, .int .i64 (i : Int), .slice (some ⟨vb, 0, none⟩) 1 1] w (RowsPost base w (insRow xs i x)) := by
  by_cases hin : i = xs.length
  · subst hin
    exact insert_end base v xs x vb w hR hx hB hl
  · obtain ⟨g, c, cur, rfl, hg, hh, hn, hm, hs, ht⟩ := row_open hR (by omega)
    have hne : vb ≠ g := fun e => hvb (by rw [e]; rfl)
    by_cases hr : xs.length + 1 ≤ c
    · exact insert_room base g c xs.length xs i x vb w hR (by omega) hx hne hl hr
    · exact insert_grow base g c xs.length xs i x vb w hR (by omega) hx hl (by omega) hB
end Go.Proofs.Ytnjidfgjldkkcaa.Q
