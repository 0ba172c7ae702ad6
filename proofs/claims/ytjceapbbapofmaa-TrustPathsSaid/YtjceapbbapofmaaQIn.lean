/- The reference's TrustReach: the region that puts a key in its place (its order is drawn). -/
import Derived.Test.YtjceapbbapofmaaQRe
namespace Go.Proofs.Ytjceapbbapofmaa.Q
open Go.RowKit Go.Maps Go.Proofs.Ytjceapbbapofmaa.PTrustPaths Go.Proofs.YtjceapbbapofmaaW.PrintWords Go.Proofs.YtjceapbbapofmaaW.PrintLast Go.Proofs.YtjceapbbapofmaaW.PrintMore
set_option linter.unusedVariables false
set_option linter.unusedSimpArgs false
section
variable {P : Program} {w : World}
/-- An append of a row that may be empty. -/
theorem wp_append_any {o : Oper} {a : Act} {K : Act → World → Prop} {Q : Exit → Act → World → Prop} (s x : Operand) (t : TypeId)
    (ho : o.op = .call { callee := .builtin .append, args := #[s, x], argTypes := #[t, t] })
    (base : Nat) (e : TypeId) (i : TypeInfo) (z : Value) (size bytes : Nat) (ht : P.underlying t = some (.slice e)) (hi : P.info? e = some i) (hz : i.zero = some z)
    (hsize : i.size = size) (hby : i.bytes = bytes) (hzs : z.cells.size = size) (hsz : 0 < size)
    (v : Value) (n : Nat) (xs : List Value) (hs : a.eval s = v) (hown : w.ownsRow base e size v n xs)
    (ad : Addr) (m c : Nat) (news : List Value) (hx : a.eval x = .slice (some ad) m c) (hl : news.length = m * size) (hnews : ∀ j u, news[j]? = some u → w.cell? (ad.add j) = some u) (h1 : ∀ u ∈ news, u.oneCell' = true)
    (h63 : n + m ≤ maxLen) (hbytes : (n + m) * bytes ≤ 140737488355328) (hbase : base ≤ w.heap.size)
    (h : ∀ v' w', w'.ownsRow base e size v' (n + m) (xs ++ news) → w.grownBy w' v.ownBlock → K (a.put o.dst v') w') : o.wp P a w K Q := by
  obtain ⟨v', w', hr, h2, h3, _, h5⟩ := run_append_own_at (P := P) w base t o.type e i z size bytes ht hi hz hsize hby hzs hsz v n xs hown ad m c news hl hnews h1 h63 hbytes hbase
  unfold Oper.wp execOp
  simp only [ho, resolve, invoke, builtin, Sem.run_bind, Sem.run_pure, Result.andThen_ok, List.map_toArray, List.map_cons, List.map_nil, hs, hx, hr]
  exact h v' w' h2 h3
end
abbrev insOps : Array Oper :=
  #[{ dst := some 73, op := Op.load 24 (Operand.tmp 9), type := 24, pos := "trust.go:43", after := #[], guard := none },
  { dst := some 74, op := Op.move (Operand.tmp 13), type := 3, pos := "trust.go:43", after := #[], guard := none },
  { dst := some 75, op := Op.slice 24 (Operand.tmp 73) none (some (Operand.tmp 74)) none, type := 24, pos := "trust.go:43", after := #[{ on := 0, ground := Ground.data }, { on := 1, ground := Ground.data }], guard := none },
  { dst := some 76, op := Op.call { callee := Callee.builtin Builtin.append, args := #[Operand.const (Value.slice none 0 0), Operand.tmp 75], argTypes := #[24, 24] }, type := 24, pos := "trust.go:43", after := #[{ on := 2, ground := Ground.data }], guard := none },
  { dst := some 77, op := Op.fieldAddr 52 (Operand.tmp 12) 1, type := 0, pos := "trust.go:43", after := #[], guard := none },
  { dst := some 78, op := Op.load 3 (Operand.tmp 77), type := 3, pos := "trust.go:43", after := #[{ on := 4, ground := Ground.data }], guard := none },
  { dst := some 79, op := Op.buildSlice 24 1 #[(0, Operand.tmp 78)], type := 24, pos := "trust.go:43", after := #[{ on := 5, ground := Ground.data }], guard := none },
  { dst := some 80, op := Op.call { callee := Callee.builtin Builtin.append, args := #[Operand.tmp 76, Operand.tmp 79], argTypes := #[24, 24] }, type := 24, pos := "trust.go:43", after := #[{ on := 3, ground := Ground.data }, { on := 6, ground := Ground.data }, { on := 3, ground := Ground.chain }], guard := none },
  { dst := some 81, op := Op.load 24 (Operand.tmp 9), type := 24, pos := "trust.go:43", after := #[], guard := none },
  { dst := some 82, op := Op.move (Operand.tmp 13), type := 3, pos := "trust.go:43", after := #[], guard := none },
  { dst := some 83, op := Op.slice 24 (Operand.tmp 81) (some (Operand.tmp 82)) none none, type := 24, pos := "trust.go:43", after := #[{ on := 8, ground := Ground.data }, { on := 9, ground := Ground.data }], guard := none },
  { dst := some 84, op := Op.call { callee := Callee.builtin Builtin.append, args := #[Operand.tmp 80, Operand.tmp 83], argTypes := #[24, 24] }, type := 24, pos := "trust.go:43", after := #[{ on := 7, ground := Ground.data }, { on := 10, ground := Ground.data }, { on := 7, ground := Ground.chain }], guard := none },
  { dst := none, op := Op.store 24 (Operand.tmp 9) (Operand.tmp 84), type := 0, pos := "trust.go:43", after := #[{ on := 11, ground := Ground.data }, { on := 11, ground := Ground.chain }, { on := 0, ground := Ground.phase }, { on := 1, ground := Ground.phase }, { on := 2, ground := Ground.phase }, { on := 3, ground := Ground.phase }, { on := 4, ground := Ground.phase }, { on := 5, ground := Ground.phase }, { on := 6, ground := Ground.phase }, { on := 7, ground := Ground.phase }, { on := 8, ground := Ground.phase }, { on := 9, ground := Ground.phase }, { on := 10, ground := Ground.phase }, { on := 11, ground := Ground.phase }], guard := none }]
theorem ints_one {l : List Int} : ∀ u ∈ intsV l, u.oneCell' = true := fun u hu => by
  obtain ⟨x, _, rfl⟩ := List.mem_map.1 hu
  rfl
theorem row_at {w : World} {B gv n cv : Nat} {xs : List Int} (h : w.ownsRow B 3 1 (.slice (some ⟨gv, 0, none⟩) n cv) n (intsV xs)) (j : Nat) (u : Value) (hu : (intsV xs)[j]? = some u) : w.cell? ⟨gv, j, none⟩ = some u := by
  have hj : j < xs.length := by have := (List.getElem?_eq_some_iff.1 hu).1; simpa using this
  have hn := own_n h
  subst hn
  obtain ⟨ad, e, hx⟩ := own_int h hj
  cases e
  have e : (⟨gv, 0, none⟩ : Addr).add j = ⟨gv, j, none⟩ := by
    unfold Addr.add
    split
    · rename_i h0; subst h0; rfl
    · simp
  rw [← e, hx, ← hu, List.getElem?_map, List.getElem?_eq_getElem hj]
  rfl
theorem row_take {w : World} {B gv n cv i : Nat} {xs : List Int} (h : w.ownsRow B 3 1 (.slice (some ⟨gv, 0, none⟩) n cv) n (intsV xs)) (j : Nat) (u : Value) (hu : (intsV (xs.take i))[j]? = some u) : w.cell? ((⟨gv, 0, none⟩ : Addr).add j) = some u := by
  have e : (⟨gv, 0, none⟩ : Addr).add j = ⟨gv, j, none⟩ := by
    unfold Addr.add
    split
    · rename_i h0; subst h0; rfl
    · simp
  rw [e]
  refine row_at h j u ?_
  have hj : j < (xs.take i).length := by have := (List.getElem?_eq_some_iff.1 hu).1; simpa using this
  rw [List.length_take] at hj
  rw [intsV, List.map_take, List.getElem?_take_of_lt (by omega)] at hu
  exact hu
theorem row_drop {w : World} {B gv n cv i : Nat} {xs : List Int} (h : w.ownsRow B 3 1 (.slice (some ⟨gv, 0, none⟩) n cv) n (intsV xs)) (j : Nat) (u : Value) (hu : (intsV (xs.drop i))[j]? = some u) : w.cell? ((⟨gv, i, none⟩ : Addr).add j) = some u := by
  have e : (⟨gv, i, none⟩ : Addr).add j = ⟨gv, i + j, none⟩ := by
    unfold Addr.add
    split
    · rename_i h0; subst h0; rfl
    · simp
  rw [e]
  refine row_at h (i + j) u ?_
  rw [intsV, List.map_drop, List.getElem?_drop] at hu
  exact hu
/-- What the region works on. -/
structure IPar where
  w0 : World
  g9 : Nat
  gC : Nat
  gv : Nat
  cv : Nat
  o : List Int
  C : S52
  i : Nat
/-- Behind the store. -/
structure InsPost (p : IPar) (w' : World) : Prop where
  os : w'.os = p.w0.os
  tape : w'.tape = p.w0.tape
  output : w'.output = p.w0.output
  size : p.w0.heap.size ≤ w'.heap.size
  block : ∀ k, k < p.w0.heap.size → k ≠ p.g9 → w'.heap[k]? = p.w0.heap[k]?
  cell : ∃ v, w'.heap[p.g9]? = some (.cells #[v] 24 (0, 0)) ∧ w'.ownsRow p.w0.heap.size 3 1 v (p.o.length + 1) (intsV (p.o.take p.i ++ p.C.f1 :: p.o.drop p.i))
structure IInv (p : IPar) (L3 L6 L7 L11 L12 : Bool) (s3 s6 s7 s11 : Value) (w : World) : Prop where
  pre : L12 = false → Below p.w0.heap.size p.w0 w
  n3 : L3 = true → L7 = false → w.ownsRow p.w0.heap.size 3 1 s3 p.i (intsV (p.o.take p.i))
  n6 : L6 = true → L7 = false → ∃ g, s6 = .slice (some ⟨g, 0, none⟩) 1 1 ∧ w.heap[g]? = some (.cells #[.int .i64 p.C.f1] 3 (0, 0))
  n7 : L7 = true → L11 = false → w.ownsRow p.w0.heap.size 3 1 s7 (p.i + 1) (intsV (p.o.take p.i) ++ [.int .i64 p.C.f1])
  n11 : L11 = true → L12 = false → w.ownsRow p.w0.heap.size 3 1 s11 (p.o.length + 1) (intsV (p.o.take p.i) ++ [.int .i64 p.C.f1] ++ intsV (p.o.drop p.i))
  fin : L12 = true → InsPost p w
set_option maxRecDepth 100000 in
set_option maxHeartbeats 8000000 in
theorem ins_region {id : Nat} (p : IPar) (B : Nat) (a0 : Act) (Q : Exit → Act → World → Prop) (hsz : a0.tmps.size = 88) (e9 : a0.tmps.getD 9 undef = .pointer (some ⟨p.g9, 0, none⟩)) (e12 : a0.tmps.getD 12 undef = .pointer (some ⟨p.gC, 0, none⟩)) (e13 : a0.tmps.getD 13 undef = .int .i64 p.i)
    (hcell : p.w0.heap[p.g9]? = some (.cells #[.slice (some ⟨p.gv, 0, none⟩) p.o.length p.cv] 24 (0, 0))) (hown : p.w0.ownsRow B 3 1 (.slice (some ⟨p.gv, 0, none⟩) p.o.length p.cv) p.o.length (intsV p.o)) (hC : p.w0.heap[p.gC]? = some (.cells #[.int .i64 p.C.f0, .int .i64 p.C.f1, .int .i64 p.C.f2.f0, .int .i64 p.C.f2.f1] 52 (0, 0)))
    (hi : p.i ≤ p.o.length) (hl : p.o.length ≤ 61)
    (hend : ∀ vs w', InsPost p w' → Q .normal ⟨(layF insOps insOps.size a0.tmps.toList vs).toArray, a0.defers⟩ w') : (Code.region id insOps true).wp Try.prog Q a0 p.w0 := by
  obtain ⟨i3, hi3, hz0, hz1, hz2⟩ := info_parts info3
  have hlen : p.o.length ≤ p.cv := own_le hown
  have hic : p.i ≤ p.cv := Nat.le_trans hi hlen
  have HC := Aside0.mk hC
  have HO := Aside0.mk hown
  have HCell := Aside0.mk hcell
  have HE := Aside0.mk hend
  clear hC hown hcell hend
  refine wp_region_inv (fun j v => match j with
    | 0 => v = .slice (some ⟨p.gv, 0, none⟩) p.o.length p.cv
    | 1 => v = .int .i64 p.i
    | 2 => v = .slice (some ⟨p.gv, 0, none⟩) p.i p.cv
    | 4 => v = .pointer (some ⟨p.gC, 1, none⟩)
    | 5 => v = .int .i64 p.C.f1
    | 8 => v = .slice (some ⟨p.gv, 0, none⟩) p.o.length p.cv
    | 9 => v = .int .i64 p.i
    | 10 => v = .slice (if p.cv = p.i then some ⟨p.gv, 0, none⟩ else some ⟨p.gv, p.i, none⟩) (p.o.length - p.i) (p.cv - p.i)
    | _ => True) (fun L sl w' => IInv p (L 3) (L 6) (L 7) (L 11) (L 12) (sl 3) (sl 6) (sl 7) (sl 11) w') (by kernel_rfl) (by rw [hsz]; kernel_rfl) ?_ ?_ ?_ ?_ ?_
  · exact fun sl => ⟨fun _ => ⟨rfl, rfl, rfl, Nat.le_refl _, fun _ _ => rfl⟩, (fun e => by cases e), (fun e => by cases e), (fun e => by cases e), (fun e => by cases e), (fun e => by cases e)⟩
  · intro j hj
    rcases Nat.lt_or_ge j 13 with h | h
    · obtain rfl | rfl | rfl | rfl | rfl | rfl | rfl | rfl | rfl | rfl | rfl | rfl | rfl : j = 0 ∨ j = 1 ∨ j = 2 ∨ j = 3 ∨ j = 4 ∨ j = 5 ∨ j = 6 ∨ j = 7 ∨ j = 8 ∨ j = 9 ∨ j = 10 ∨ j = 11 ∨ j = 12 := by omega
      all_goals first | trivial | exact absurd hj (by decide +kernel)
    · match j, h with | k + 13, _ => trivial
  · intro j o a w' L hj ho hF hL hd hcl hI
    replace hj : j < 13 := hj
    -- before the store
    have f12 : L 12 = false := by
      cases h : L 12 with
      | false => rfl
      | true =>
        exfalso
        obtain rfl | rfl | rfl | rfl | rfl | rfl | rfl | rfl | rfl | rfl | rfl | rfl | rfl : j = 0 ∨ j = 1 ∨ j = 2 ∨ j = 3 ∨ j = 4 ∨ j = 5 ∨ j = 6 ∨ j = 7 ∨ j = 8 ∨ j = 9 ∨ j = 10 ∨ j = 11 ∨ j = 12 := by omega
        case inr.inr.inr.inr.inr.inr.inr.inr.inr.inr.inr.inr => rw [hL] at h; cases h
        all_goals first
          | (exact absurd (hcl 12 _ rfl h ⟨0, .phase⟩ (by simp) rfl) (by rw [hL]; simp))
          | (exact absurd (hcl 12 _ rfl h ⟨1, .phase⟩ (by simp) rfl) (by rw [hL]; simp))
          | (exact absurd (hcl 12 _ rfl h ⟨2, .phase⟩ (by simp) rfl) (by rw [hL]; simp))
          | (exact absurd (hcl 12 _ rfl h ⟨3, .phase⟩ (by simp) rfl) (by rw [hL]; simp))
          | (exact absurd (hcl 12 _ rfl h ⟨4, .phase⟩ (by simp) rfl) (by rw [hL]; simp))
          | (exact absurd (hcl 12 _ rfl h ⟨5, .phase⟩ (by simp) rfl) (by rw [hL]; simp))
          | (exact absurd (hcl 12 _ rfl h ⟨6, .phase⟩ (by simp) rfl) (by rw [hL]; simp))
          | (exact absurd (hcl 12 _ rfl h ⟨7, .phase⟩ (by simp) rfl) (by rw [hL]; simp))
          | (exact absurd (hcl 12 _ rfl h ⟨8, .phase⟩ (by simp) rfl) (by rw [hL]; simp))
          | (exact absurd (hcl 12 _ rfl h ⟨9, .phase⟩ (by simp) rfl) (by rw [hL]; simp))
          | (exact absurd (hcl 12 _ rfl h ⟨10, .phase⟩ (by simp) rfl) (by rw [hL]; simp))
          | (exact absurd (hcl 12 _ rfl h ⟨11, .phase⟩ (by simp) rfl) (by rw [hL]; simp))
    have hB := hI.pre f12
    have hcv : w'.cell? ⟨p.g9, 0, none⟩ = some (.slice (some ⟨p.gv, 0, none⟩) p.o.length p.cv) := (blk_cell (blk_below HCell.out hB) 0).trans rfl
    have hcf : w'.cell? ⟨p.gC, 1, none⟩ = some (.int .i64 p.C.f1) := (blk_cell (blk_below HC.out hB) 1).trans rfl
    have hO := Aside0.mk (pw_own_below HO.out hB)
    obtain rfl | rfl | rfl | rfl | rfl | rfl | rfl | rfl | rfl | rfl | rfl | rfl | rfl : j = 0 ∨ j = 1 ∨ j = 2 ∨ j = 3 ∨ j = 4 ∨ j = 5 ∨ j = 6 ∨ j = 7 ∨ j = 8 ∨ j = 9 ∨ j = 10 ∨ j = 11 ∨ j = 12 := by omega
    case inl =>
      cases ho
      have s0 := (hF.get (k := 9) (by decide +kernel)).trans e9
      clear hcl hd f12
      have hI := Aside0.mk hI
      go_simp
      exact StepPost.mk rfl (fun sl hs hn => by rw [hs 3 (by decide +kernel) (by decide), hs 6 (by decide +kernel) (by decide), hs 7 (by decide +kernel) (by decide), hs 11 (by decide +kernel) (by decide)]; exact hI.out)
    case inr.inl =>
      cases ho
      have s0 := (hF.get (k := 13) (by decide +kernel)).trans e13
      clear hcl hd f12
      have hI := Aside0.mk hI
      go_simp
      exact StepPost.mk rfl (fun sl hs hn => by rw [hs 3 (by decide +kernel) (by decide), hs 6 (by decide +kernel) (by decide), hs 7 (by decide +kernel) (by decide), hs 11 (by decide +kernel) (by decide)]; exact hI.out)
    case inr.inr.inl =>
      cases ho
      have s0 : a.tmps.getD 73 undef = _ := (hd ⟨0, .data⟩ (by simp) rfl).2
      have s1 : a.tmps.getD 74 undef = _ := (hd ⟨1, .data⟩ (by simp) rfl).2
      clear hcl hd f12
      have hI := Aside0.mk hI
      go_simp
      exact StepPost.mk rfl (fun sl hs hn => by rw [hs 3 (by decide +kernel) (by decide), hs 6 (by decide +kernel) (by decide), hs 7 (by decide +kernel) (by decide), hs 11 (by decide +kernel) (by decide)]; exact hI.out)
    case inr.inr.inr.inl =>
      cases ho
      have s0 : a.tmps.getD 75 undef = _ := (hd ⟨2, .data⟩ (by simp) rfl).2
      have f7 : L 7 = false := by cases h : L 7 with | false => rfl | true => exact absurd (hcl 7 _ rfl h ⟨3, .data⟩ (by simp) rfl) (by rw [hL]; simp)
      have f11 : L 11 = false := by cases h : L 11 with | false => rfl | true => exact absurd (hcl 11 _ rfl h ⟨7, .data⟩ (by simp) rfl) (by rw [f7]; simp)
      refine wp_append_any (.const (.slice none 0 0)) (.tmp 75) 24 rfl p.w0.heap.size 3 i3 (.int .i64 0) 1 8 Try.underlying24 hi3 hz0 hz1 hz2 rfl (by decide) (.slice none 0 0) 0 [] rfl (World.ownsRow_nil _ _ _ _) ⟨p.gv, 0, none⟩ p.i p.cv (intsV (p.o.take p.i)) s0 (by simp; omega) (row_take hO.out) ints_one (by unfold maxLen; omega) (by omega) hB.size ?_
      intro v' w2 ho2 hg2
      refine StepPost.mk trivial (fun sl hs hn => ?_)
      rw [hn (by decide +kernel), hs 6 (by decide +kernel) (by decide), hs 7 (by decide +kernel) (by decide), hs 11 (by decide +kernel) (by decide)]
      rw [Nat.zero_add, List.nil_append] at ho2
      show IInv p true (L 6) (L 7) (L 11) (L 12) _ _ _ _ _
      replace hI : IInv p (L 3) (L 6) (L 7) (L 11) (L 12) (slotOf _ a 3) (slotOf _ a 6) (slotOf _ a 7) (slotOf _ a 11) w' := hI
      rw [f7, f11, f12] at hI ⊢
      refine ⟨fun _ => grown_below hB hg2 (fun k hk => by cases hk), fun _ _ => ho2, fun h6 h => ?_, (fun e => by cases e), (fun e => by cases e), (fun e => by cases e)⟩
      obtain ⟨g, hs6, hg6⟩ := hI.n6 h6 h
      exact ⟨g, hs6, blk_grown hg6 hg2 (by simp [Value.ownBlock])⟩
    case inr.inr.inr.inr.inl =>
      cases ho
      have s0 := (hF.get (k := 12) (by decide +kernel)).trans e12
      clear hcl hd f12
      have hI := Aside0.mk hI
      go_simp
      exact StepPost.mk rfl (fun sl hs hn => by rw [hs 3 (by decide +kernel) (by decide), hs 6 (by decide +kernel) (by decide), hs 7 (by decide +kernel) (by decide), hs 11 (by decide +kernel) (by decide)]; exact hI.out)
    case inr.inr.inr.inr.inr.inl =>
      cases ho
      have s0 : a.tmps.getD 77 undef = _ := (hd ⟨4, .data⟩ (by simp) rfl).2
      clear hcl hd f12
      have hI := Aside0.mk hI
      go_simp
      exact StepPost.mk rfl (fun sl hs hn => by rw [hs 3 (by decide +kernel) (by decide), hs 6 (by decide +kernel) (by decide), hs 7 (by decide +kernel) (by decide), hs 11 (by decide +kernel) (by decide)]; exact hI.out)
    case inr.inr.inr.inr.inr.inr.inl =>
      cases ho
      have s0 : a.tmps.getD 78 undef = _ := (hd ⟨5, .data⟩ (by simp) rfl).2
      rw [Array.getD_eq_getD_getElem?] at s0
      have hT := Aside0.mk f12
      clear hcl hd f12
      replace hI : IInv p (L 3) (L 6) (L 7) (L 11) (L 12) (slotOf _ a 3) (slotOf _ a 6) (slotOf _ a 7) (slotOf _ a 11) w' := hI
      have hI := Aside0.mk hI
      go_simp
      refine StepPost.mk trivial (fun sl hs hn => ?_)
      rw [hn (by decide +kernel), hs 3 (by decide +kernel) (by decide), hs 7 (by decide +kernel) (by decide), hs 11 (by decide +kernel) (by decide)]
      show IInv p (L 3) true (L 7) (L 11) (L 12) _ _ _ _ _
      have hI := hI.out
      rw [hT.out] at hI ⊢
      exact ⟨fun _ => below_alloc hB _, fun h h' => (hI.n3 h h').alloc _, fun _ _ => ⟨_, rfl, blk_new w' _⟩, fun h h' => (hI.n7 h h').alloc _, fun h h' => (hI.n11 h h').alloc _, (fun e => by cases e)⟩
    case inr.inr.inr.inr.inr.inr.inr.inl =>
      cases ho
      have t3 := (hd ⟨3, .data⟩ (by simp) rfl).1
      have t6 := (hd ⟨6, .data⟩ (by simp) rfl).1
      have f11 : L 11 = false := by cases h : L 11 with | false => rfl | true => exact absurd (hcl 11 _ rfl h ⟨7, .data⟩ (by simp) rfl) (by rw [hL]; simp)
      replace hI : IInv p (L 3) (L 6) (L 7) (L 11) (L 12) (slotOf _ a 3) (slotOf _ a 6) (slotOf _ a 7) (slotOf _ a 11) w' := hI
      rw [t3, t6, hL, f11, f12] at hI
      obtain ⟨g, hs6, hg6⟩ := hI.n6 rfl rfl
      have h3 := hI.n3 rfl rfl
      refine wp_append_any (.tmp 76) (.tmp 79) 24 rfl p.w0.heap.size 3 i3 (.int .i64 0) 1 8 Try.underlying24 hi3 hz0 hz1 hz2 rfl (by decide) (slotOf _ a 3) p.i (intsV (p.o.take p.i)) rfl h3 ⟨g, 0, none⟩ 1 1 [.int .i64 p.C.f1] hs6 rfl (news_blk hg6) (one_int p.C.f1) (by unfold maxLen; omega) (by omega) hB.size ?_
      intro v' w2 ho2 hg2
      refine StepPost.mk trivial (fun sl hs hn => ?_)
      rw [hn (by decide +kernel), hs 3 (by decide +kernel) (by decide), hs 6 (by decide +kernel) (by decide), hs 11 (by decide +kernel) (by decide)]
      show IInv p (L 3) (L 6) true (L 11) (L 12) _ _ _ _ _
      rw [t3, t6, f11, f12]
      exact ⟨fun _ => grown_below hB hg2 (fun k hk => (h3.lt k hk).1), (fun _ e => by cases e), (fun _ e => by cases e), fun _ _ => ho2, (fun e => by cases e), (fun e => by cases e)⟩
    case inr.inr.inr.inr.inr.inr.inr.inr.inl =>
      cases ho
      have s0 := (hF.get (k := 9) (by decide +kernel)).trans e9
      clear hcl hd f12
      have hI := Aside0.mk hI
      go_simp
      exact StepPost.mk rfl (fun sl hs hn => by rw [hs 3 (by decide +kernel) (by decide), hs 6 (by decide +kernel) (by decide), hs 7 (by decide +kernel) (by decide), hs 11 (by decide +kernel) (by decide)]; exact hI.out)
    case inr.inr.inr.inr.inr.inr.inr.inr.inr.inl =>
      cases ho
      have s0 := (hF.get (k := 13) (by decide +kernel)).trans e13
      clear hcl hd f12
      have hI := Aside0.mk hI
      go_simp
      exact StepPost.mk rfl (fun sl hs hn => by rw [hs 3 (by decide +kernel) (by decide), hs 6 (by decide +kernel) (by decide), hs 7 (by decide +kernel) (by decide), hs 11 (by decide +kernel) (by decide)]; exact hI.out)
    case inr.inr.inr.inr.inr.inr.inr.inr.inr.inr.inl =>
      cases ho
      have s0 : a.tmps.getD 81 undef = _ := (hd ⟨8, .data⟩ (by simp) rfl).2
      have s1 : a.tmps.getD 82 undef = _ := (hd ⟨9, .data⟩ (by simp) rfl).2
      clear hcl hd f12
      have hI := Aside0.mk hI
      go_simp
      exact StepPost.mk rfl (fun sl hs hn => by rw [hs 3 (by decide +kernel) (by decide), hs 6 (by decide +kernel) (by decide), hs 7 (by decide +kernel) (by decide), hs 11 (by decide +kernel) (by decide)]; exact hI.out)
    case inr.inr.inr.inr.inr.inr.inr.inr.inr.inr.inr.inl =>
      cases ho
      have t7 := (hd ⟨7, .data⟩ (by simp) rfl).1
      have s0 : a.tmps.getD 83 undef = _ := (hd ⟨10, .data⟩ (by simp) rfl).2
      replace hI : IInv p (L 3) (L 6) (L 7) (L 11) (L 12) (slotOf _ a 3) (slotOf _ a 6) (slotOf _ a 7) (slotOf _ a 11) w' := hI
      rw [t7, hL, f12] at hI
      have h7 := hI.n7 rfl rfl
      obtain ⟨ad, had, hrow⟩ : ∃ ad, (if p.cv = p.i then some (⟨p.gv, 0, none⟩ : Addr) else some ⟨p.gv, p.i, none⟩) = some ad ∧ ∀ (j : Nat) u, (intsV (p.o.drop p.i))[j]? = some u → w'.cell? (ad.add j) = some u := by
        by_cases hc : p.cv = p.i
        · rw [if_pos hc]
          refine ⟨_, rfl, fun j u hu => ?_⟩
          rw [List.drop_of_length_le (by omega)] at hu
          simp at hu
        · rw [if_neg hc]
          exact ⟨_, rfl, row_drop hO.out⟩
      refine wp_append_any (.tmp 80) (.tmp 83) 24 rfl p.w0.heap.size 3 i3 (.int .i64 0) 1 8 Try.underlying24 hi3 hz0 hz1 hz2 rfl (by decide) (slotOf _ a 7) (p.i + 1) (intsV (p.o.take p.i) ++ [.int .i64 p.C.f1]) rfl h7 ad (p.o.length - p.i) (p.cv - p.i) (intsV (p.o.drop p.i)) (s0.trans (by rw [had])) (by simp) hrow ints_one (by unfold maxLen; omega) (by omega) hB.size ?_
      intro v' w2 ho2 hg2
      refine StepPost.mk trivial (fun sl hs hn => ?_)
      rw [hn (by decide +kernel), hs 3 (by decide +kernel) (by decide), hs 6 (by decide +kernel) (by decide), hs 7 (by decide +kernel) (by decide)]
      show IInv p (L 3) (L 6) (L 7) true (L 12) _ _ _ _ _
      rw [t7, f12]
      have hn : p.i + 1 + (p.o.length - p.i) = p.o.length + 1 := by omega
      rw [hn] at ho2
      exact ⟨fun _ => grown_below hB hg2 (fun k hk => (h7.lt k hk).1), (fun _ e => by cases e), (fun _ e => by cases e), (fun _ e => by cases e), fun _ _ => ho2, (fun e => by cases e)⟩
    case inr.inr.inr.inr.inr.inr.inr.inr.inr.inr.inr.inr =>
      cases ho
      have s0 := (hF.get (k := 9) (by decide +kernel)).trans e9
      have t11 := (hd ⟨11, .data⟩ (by simp) rfl).1
      replace hI : IInv p (L 3) (L 6) (L 7) (L 11) (L 12) (slotOf _ a 3) (slotOf _ a 6) (slotOf _ a 7) (slotOf _ a 11) w' := hI
      rw [t11, hL] at hI
      have h11 := hI.n11 rfl rfl
      obtain ⟨g, cc, hv⟩ := own_form h11 (Nat.succ_ne_zero _)
      have e11 : a.tmps.getD 84 undef = .slice (some ⟨g, 0, none⟩) (p.o.length + 1) cc := hv
      have hbk := blk_below HCell.out hB
      have t7 := hcl 11 _ rfl t11 ⟨7, .data⟩ (by simp) rfl
      have T7 := Aside0.mk t7
      have T11 := Aside0.mk t11
      have y4 : w'.frozen? ⟨p.g9, 0, none⟩ = false := blk_frozen hbk 0
      have hg9 : p.g9 < p.w0.heap.size := (Array.getElem?_eq_some_iff.1 HCell.out).1
      have HP : Aside0 (InsPost p (w'.setCell ⟨p.g9, 0, none⟩ (.slice (some ⟨g, 0, none⟩) (p.o.length + 1) cc))) := ⟨by
        rw [hv] at h11
        refine ⟨hB.os, hB.tape, hB.output, by simpa using hB.size, fun k hk hne => ?_, _, blk_put (cs := #[.slice (some ⟨p.gv, 0, none⟩) p.o.length p.cv]) hbk 0 _ rfl, ?_⟩
        · exact (Below.heap_setCell w' ⟨p.g9, 0, none⟩ _ k hne).trans (hB.block k hk)
        · have h : (w'.setCell ⟨p.g9, 0, none⟩ (.slice (some ⟨g, 0, none⟩) (p.o.length + 1) cc)).ownsRow _ _ _ _ _ _ := ownsRow_setCell_below h11 hg9 (.slice (some ⟨g, 0, none⟩) (p.o.length + 1) cc)
          rw [show intsV (p.o.take p.i ++ p.C.f1 :: p.o.drop p.i) = intsV (p.o.take p.i) ++ [.int .i64 p.C.f1] ++ intsV (p.o.drop p.i) from by simp [intsV]]
          exact h⟩
      clear hcl hd f12 hv h11 hI t11 t7 hB hbk
      go_simp
      refine StepPost.none trivial (fun sl hs hn => ?_)
      show IInv p (L 3) (L 6) (L 7) (L 11) true _ _ _ _ _
      rw [T7.out, T11.out]
      exact ⟨(fun e => by cases e), (fun _ e => by cases e), (fun _ e => by cases e), (fun _ e => by cases e), (fun _ e => by cases e), fun _ => HP.out⟩
  · intro vs w' hv hI
    exact HE.out vs w' (hI.fin rfl)
  · intro L L' sl w' he hI
    rw [← he 3 (by decide +kernel), ← he 6 (by decide +kernel), ← he 7 (by decide +kernel), ← he 11 (by decide +kernel), ← he 12 (by decide +kernel)]
    exact hI
end Go.Proofs.Ytjceapbbapofmaa.Q
