/- The reference's TrustPath: the region that makes a way (its order is drawn). -/
import Derived.Test.YtjceapbbapofmaaQPl
namespace Go.Proofs.Ytjceapbbapofmaa.Q
open Go.RowKit Go.Maps Go.Proofs.Ytjceapbbapofmaa.PTrustPaths Go.Proofs.Ytjceapbbapofmaa.Trust Go.Proofs.YtjceapbbapofmaaW.PrintWords Go.Proofs.YtjceapbbapofmaaW.PrintLast Go.Proofs.YtjceapbbapofmaaW.PrintMore
set_option linter.unusedVariables false
set_option linter.unusedSimpArgs false
abbrev wayOps : Array Oper :=
  #[{ dst := some 76, op := Op.move (Operand.tmp 11), type := 84, pos := "trust.go:89", after := #[], guard := none },
  { dst := some 77, op := Op.move (Operand.tmp 14), type := 3, pos := "trust.go:89", after := #[], guard := none },
  { dst := some 78, op := Op.indexAddr 84 (Operand.tmp 76) (Operand.tmp 77), type := 0, pos := "trust.go:89", after := #[{ on := 0, ground := Ground.data }, { on := 1, ground := Ground.data }], guard := none },
  { dst := some 79, op := Op.load 24 (Operand.tmp 78), type := 24, pos := "trust.go:89", after := #[{ on := 2, ground := Ground.data }], guard := none },
  { dst := some 80, op := Op.call { callee := Callee.builtin Builtin.append, args := #[Operand.const (Value.slice none 0 0), Operand.tmp 79], argTypes := #[24, 24] }, type := 24, pos := "trust.go:89", after := #[{ on := 3, ground := Ground.data }], guard := none },
  { dst := some 81, op := Op.fieldAddr 52 (Operand.tmp 13) 1, type := 0, pos := "trust.go:89", after := #[], guard := none },
  { dst := some 82, op := Op.load 3 (Operand.tmp 81), type := 3, pos := "trust.go:89", after := #[{ on := 5, ground := Ground.data }], guard := none },
  { dst := some 83, op := Op.buildSlice 24 1 #[(0, Operand.tmp 82)], type := 24, pos := "trust.go:89", after := #[{ on := 6, ground := Ground.data }], guard := none },
  { dst := some 84, op := Op.call { callee := Callee.builtin Builtin.append, args := #[Operand.tmp 80, Operand.tmp 83], argTypes := #[24, 24] }, type := 24, pos := "trust.go:89", after := #[{ on := 4, ground := Ground.data }, { on := 7, ground := Ground.data }, { on := 4, ground := Ground.chain }], guard := none },
  { dst := some 16, op := Op.assign (Operand.tmp 84), type := 24, pos := "trust.go:89", after := #[{ on := 8, ground := Ground.data }, { on := 8, ground := Ground.chain }, { on := 0, ground := Ground.phase }, { on := 1, ground := Ground.phase }, { on := 2, ground := Ground.phase }, { on := 3, ground := Ground.phase }, { on := 4, ground := Ground.phase }, { on := 5, ground := Ground.phase }, { on := 6, ground := Ground.phase }, { on := 7, ground := Ground.phase }, { on := 8, ground := Ground.phase }], guard := none }]
structure YPar where
  w0 : World
  b1 : Nat
  N : Nat
  gC : Nat
  gv : Nat
  cv : Nat
  o : List Int
  C : S52
  i : Nat
structure YInv (p : YPar) (L4 L7 L8 L9 : Bool) (s4 s7 s8 s9 : Value) (w : World) : Prop where
  pre : Below p.w0.heap.size p.w0 w
  n4 : L4 = true → L8 = false → w.ownsRow p.w0.heap.size 3 1 s4 p.o.length (intsV p.o)
  n7 : L7 = true → L8 = false → ∃ g, s7 = .slice (some ⟨g, 0, none⟩) 1 1 ∧ w.heap[g]? = some (.cells #[.int .i64 p.C.f1] 3 (0, 0))
  n8 : L8 = true → w.ownsRow p.w0.heap.size 3 1 s8 (p.o.length + 1) (intsV p.o ++ [.int .i64 p.C.f1])
  n9 : L9 = true → w.ownsRow p.w0.heap.size 3 1 s9 (p.o.length + 1) (intsV p.o ++ [.int .i64 p.C.f1])
set_option maxRecDepth 100000 in
set_option maxHeartbeats 8000000 in
theorem way_region {id : Nat} (p : YPar) (B : Nat) (a0 : Act) (Q : Exit → Act → World → Prop) (hsz : a0.tmps.size = 130) (e11 : a0.tmps.getD 11 undef = .slice (some ⟨p.b1, 0, none⟩) p.N p.N) (e13 : a0.tmps.getD 13 undef = .pointer (some ⟨p.gC, 0, none⟩)) (e14 : a0.tmps.getD 14 undef = .int .i64 p.i)
    (hcell : p.w0.cell? ⟨p.b1, p.i, none⟩ = some (.slice (some ⟨p.gv, 0, none⟩) p.o.length p.cv)) (hown : p.w0.ownsRow B 3 1 (.slice (some ⟨p.gv, 0, none⟩) p.o.length p.cv) p.o.length (intsV p.o)) (hC : p.w0.heap[p.gC]? = some (.cells #[.int .i64 p.C.f0, .int .i64 p.C.f1, .int .i64 p.C.f2.f0, .int .i64 p.C.f2.f1] 52 (0, 0)))
    (hi : p.i < p.N) (hl : p.o.length ≤ 100000)
    (hend : ∀ vs w', Below p.w0.heap.size p.w0 w' → w'.ownsRow p.w0.heap.size 3 1 (vs 9) (p.o.length + 1) (intsV (p.o ++ [p.C.f1])) → Q .normal ⟨(layF wayOps wayOps.size a0.tmps.toList vs).toArray, a0.defers⟩ w') : (Code.region id wayOps true).wp Try.prog Q a0 p.w0 := by
  obtain ⟨i3, hi3, hz0, hz1, hz2⟩ := info_parts info3
  have HC := Aside0.mk hC
  have HO := Aside0.mk hown
  have HCell := Aside0.mk hcell
  have HE := Aside0.mk hend
  have p1 : (0 : Int) ≤ (p.i : Int) := Int.natCast_nonneg _
  have q1 : (p.i : Int) < (p.N : Int) := Int.ofNat_lt.2 hi
  clear hC hown hcell hend
  refine wp_region_inv (fun j v => match j with
    | 0 => v = .slice (some ⟨p.b1, 0, none⟩) p.N p.N
    | 1 => v = .int .i64 p.i
    | 2 => v = .pointer (some ⟨p.b1, p.i, none⟩)
    | 3 => v = .slice (some ⟨p.gv, 0, none⟩) p.o.length p.cv
    | 5 => v = .pointer (some ⟨p.gC, 1, none⟩)
    | 6 => v = .int .i64 p.C.f1
    | _ => True) (fun L sl w' => YInv p (L 4) (L 7) (L 8) (L 9) (sl 4) (sl 7) (sl 8) (sl 9) w') (by kernel_rfl) (by rw [hsz]; kernel_rfl) ?_ ?_ ?_ ?_ ?_
  · exact fun sl => ⟨⟨rfl, rfl, rfl, Nat.le_refl _, fun _ _ => rfl⟩, (fun e => by cases e), (fun e => by cases e), (fun e => by cases e), (fun e => by cases e)⟩
  · intro j hj
    rcases Nat.lt_or_ge j 10 with h | h
    · obtain rfl | rfl | rfl | rfl | rfl | rfl | rfl | rfl | rfl | rfl : j = 0 ∨ j = 1 ∨ j = 2 ∨ j = 3 ∨ j = 4 ∨ j = 5 ∨ j = 6 ∨ j = 7 ∨ j = 8 ∨ j = 9 := by omega
      all_goals first | trivial | exact absurd hj (by decide +kernel)
    · match j, h with | k + 10, _ => trivial
  · intro j o a w' L hj ho hF hL hd hcl hI
    replace hj : j < 10 := hj
    have hcv : w'.cell? ⟨p.b1, p.i, none⟩ = some (.slice (some ⟨p.gv, 0, none⟩) p.o.length p.cv) := (hI.pre.cell (World.block_lt_of_cell? p.w0 _ HCell.out)).trans HCell.out
    have hcf : w'.cell? ⟨p.gC, 1, none⟩ = some (.int .i64 p.C.f1) := (blk_cell (blk_below HC.out hI.pre) 1).trans rfl
    have hO := Aside0.mk (pw_own_below HO.out hI.pre)
    obtain rfl | rfl | rfl | rfl | rfl | rfl | rfl | rfl | rfl | rfl : j = 0 ∨ j = 1 ∨ j = 2 ∨ j = 3 ∨ j = 4 ∨ j = 5 ∨ j = 6 ∨ j = 7 ∨ j = 8 ∨ j = 9 := by omega
    case inl =>
      cases ho
      have s0 := (hF.get (k := 11) (by decide +kernel)).trans e11
      clear hcl hd
      have hI := Aside0.mk hI
      go_simp
      exact StepPost.mk rfl (fun sl hs hn => by rw [hs 4 (by decide +kernel) (by decide), hs 7 (by decide +kernel) (by decide), hs 8 (by decide +kernel) (by decide), hs 9 (by decide +kernel) (by decide)]; exact hI.out)
    case inr.inl =>
      cases ho
      have s0 := (hF.get (k := 14) (by decide +kernel)).trans e14
      clear hcl hd
      have hI := Aside0.mk hI
      go_simp
      exact StepPost.mk rfl (fun sl hs hn => by rw [hs 4 (by decide +kernel) (by decide), hs 7 (by decide +kernel) (by decide), hs 8 (by decide +kernel) (by decide), hs 9 (by decide +kernel) (by decide)]; exact hI.out)
    case inr.inr.inl =>
      cases ho
      have s0 : a.tmps.getD 76 undef = _ := (hd ⟨0, .data⟩ (by simp) rfl).2
      have s1 : a.tmps.getD 77 undef = _ := (hd ⟨1, .data⟩ (by simp) rfl).2
      clear hcl hd
      have hI := Aside0.mk hI
      go_simp
      exact StepPost.mk rfl (fun sl hs hn => by rw [hs 4 (by decide +kernel) (by decide), hs 7 (by decide +kernel) (by decide), hs 8 (by decide +kernel) (by decide), hs 9 (by decide +kernel) (by decide)]; exact hI.out)
    case inr.inr.inr.inl =>
      cases ho
      have s0 : a.tmps.getD 78 undef = _ := (hd ⟨2, .data⟩ (by simp) rfl).2
      clear hcl hd
      have hI := Aside0.mk hI
      go_simp
      exact StepPost.mk rfl (fun sl hs hn => by rw [hs 4 (by decide +kernel) (by decide), hs 7 (by decide +kernel) (by decide), hs 8 (by decide +kernel) (by decide), hs 9 (by decide +kernel) (by decide)]; exact hI.out)
    case inr.inr.inr.inr.inl =>
      cases ho
      have s0 : a.tmps.getD 79 undef = _ := (hd ⟨3, .data⟩ (by simp) rfl).2
      have f8 : L 8 = false := by cases h : L 8 with | false => rfl | true => exact absurd (hcl 8 _ rfl h ⟨4, .data⟩ (by simp) rfl) (by rw [hL]; simp)
      have f9 : L 9 = false := by cases h : L 9 with | false => rfl | true => exact absurd (hcl 9 _ rfl h ⟨8, .data⟩ (by simp) rfl) (by rw [f8]; simp)
      refine wp_append_any (.const (.slice none 0 0)) (.tmp 79) 24 rfl p.w0.heap.size 3 i3 (.int .i64 0) 1 8 Try.underlying24 hi3 hz0 hz1 hz2 rfl (by decide) (.slice none 0 0) 0 [] rfl (World.ownsRow_nil _ _ _ _) ⟨p.gv, 0, none⟩ p.o.length p.cv (intsV p.o) s0 (by simp) (fun j u hu => row_take (i := p.o.length) hO.out j u (by rw [List.take_length]; exact hu)) ints_one (by unfold maxLen; omega) (by omega) hI.pre.size ?_
      intro v' w2 ho2 hg2
      refine StepPost.mk trivial (fun sl hs hn => ?_)
      rw [hn (by decide +kernel), hs 7 (by decide +kernel) (by decide), hs 8 (by decide +kernel) (by decide), hs 9 (by decide +kernel) (by decide)]
      rw [Nat.zero_add, List.nil_append] at ho2
      show YInv p true (L 7) (L 8) (L 9) _ _ _ _ _
      replace hI : YInv p (L 4) (L 7) (L 8) (L 9) (slotOf _ a 4) (slotOf _ a 7) (slotOf _ a 8) (slotOf _ a 9) w' := hI
      rw [f8, f9] at hI ⊢
      refine ⟨grown_below hI.pre hg2 (fun k hk => by cases hk), fun _ _ => ho2, fun h7 h => ?_, (fun e => by cases e), (fun e => by cases e)⟩
      obtain ⟨g, hs7, hg7⟩ := hI.n7 h7 h
      exact ⟨g, hs7, blk_grown hg7 hg2 (by simp [Value.ownBlock])⟩
    case inr.inr.inr.inr.inr.inl =>
      cases ho
      have s0 := (hF.get (k := 13) (by decide +kernel)).trans e13
      clear hcl hd
      have hI := Aside0.mk hI
      go_simp
      exact StepPost.mk rfl (fun sl hs hn => by rw [hs 4 (by decide +kernel) (by decide), hs 7 (by decide +kernel) (by decide), hs 8 (by decide +kernel) (by decide), hs 9 (by decide +kernel) (by decide)]; exact hI.out)
    case inr.inr.inr.inr.inr.inr.inl =>
      cases ho
      have s0 : a.tmps.getD 81 undef = _ := (hd ⟨5, .data⟩ (by simp) rfl).2
      clear hcl hd
      have hI := Aside0.mk hI
      go_simp
      exact StepPost.mk rfl (fun sl hs hn => by rw [hs 4 (by decide +kernel) (by decide), hs 7 (by decide +kernel) (by decide), hs 8 (by decide +kernel) (by decide), hs 9 (by decide +kernel) (by decide)]; exact hI.out)
    case inr.inr.inr.inr.inr.inr.inr.inl =>
      cases ho
      have s0 : a.tmps.getD 82 undef = _ := (hd ⟨6, .data⟩ (by simp) rfl).2
      rw [Array.getD_eq_getD_getElem?] at s0
      clear hcl hd
      replace hI : YInv p (L 4) (L 7) (L 8) (L 9) (slotOf _ a 4) (slotOf _ a 7) (slotOf _ a 8) (slotOf _ a 9) w' := hI
      have hI := Aside0.mk hI
      go_simp
      refine StepPost.mk trivial (fun sl hs hn => ?_)
      rw [hn (by decide +kernel), hs 4 (by decide +kernel) (by decide), hs 8 (by decide +kernel) (by decide), hs 9 (by decide +kernel) (by decide)]
      show YInv p (L 4) true (L 8) (L 9) _ _ _ _ _
      have hI := hI.out
      exact ⟨below_alloc hI.pre _, fun h h' => (hI.n4 h h').alloc _, fun _ _ => ⟨_, rfl, blk_new w' _⟩, fun h => (hI.n8 h).alloc _, fun h => (hI.n9 h).alloc _⟩
    case inr.inr.inr.inr.inr.inr.inr.inr.inl =>
      cases ho
      have t4 := (hd ⟨4, .data⟩ (by simp) rfl).1
      have t7 := (hd ⟨7, .data⟩ (by simp) rfl).1
      have f9 : L 9 = false := by cases h : L 9 with | false => rfl | true => exact absurd (hcl 9 _ rfl h ⟨8, .data⟩ (by simp) rfl) (by rw [hL]; simp)
      replace hI : YInv p (L 4) (L 7) (L 8) (L 9) (slotOf _ a 4) (slotOf _ a 7) (slotOf _ a 8) (slotOf _ a 9) w' := hI
      rw [t4, t7, hL, f9] at hI
      obtain ⟨g, hs7, hg7⟩ := hI.n7 rfl rfl
      have h4 := hI.n4 rfl rfl
      refine wp_append_any (.tmp 80) (.tmp 83) 24 rfl p.w0.heap.size 3 i3 (.int .i64 0) 1 8 Try.underlying24 hi3 hz0 hz1 hz2 rfl (by decide) (slotOf _ a 4) p.o.length (intsV p.o) rfl h4 ⟨g, 0, none⟩ 1 1 [.int .i64 p.C.f1] hs7 rfl (news_blk hg7) (one_int p.C.f1) (by unfold maxLen; omega) (by omega) hI.pre.size ?_
      intro v' w2 ho2 hg2
      refine StepPost.mk trivial (fun sl hs hn => ?_)
      rw [hn (by decide +kernel), hs 4 (by decide +kernel) (by decide), hs 7 (by decide +kernel) (by decide), hs 9 (by decide +kernel) (by decide)]
      show YInv p (L 4) (L 7) true (L 9) _ _ _ _ _
      rw [t4, t7, f9]
      exact ⟨grown_below hI.pre hg2 (fun k hk => (h4.lt k hk).1), (fun _ e => by cases e), (fun _ e => by cases e), fun _ => ho2, (fun e => by cases e)⟩
    case inr.inr.inr.inr.inr.inr.inr.inr.inr =>
      cases ho
      have t8 := (hd ⟨8, .data⟩ (by simp) rfl).1
      replace hI : YInv p (L 4) (L 7) (L 8) (L 9) (slotOf _ a 4) (slotOf _ a 7) (slotOf _ a 8) (slotOf _ a 9) w' := hI
      have h8 := hI.n8 t8
      obtain ⟨v8, hv8⟩ : ∃ x, x = slotOf wayOps a 8 := ⟨_, rfl⟩
      have e8 : a.tmps.getD 84 undef = v8 := hv8.symm
      rw [← hv8] at h8
      clear hv8
      have hI := Aside0.mk hI
      have h8 := Aside0.mk h8
      clear hcl hd t8
      go_simp
      refine StepPost.mk trivial (fun sl hs hn => ?_)
      rw [hn (by decide +kernel), hs 4 (by decide +kernel) (by decide), hs 7 (by decide +kernel) (by decide), hs 8 (by decide +kernel) (by decide)]
      show YInv p (L 4) (L 7) (L 8) true _ _ _ _ _
      have hI := hI.out
      exact ⟨hI.pre, hI.n4, hI.n7, hI.n8, fun _ => h8.out⟩
  · intro vs w' hv hI
    refine HE.out vs w' hI.pre ?_
    have h := hI.n9 rfl
    rwa [show intsV p.o ++ [.int .i64 p.C.f1] = intsV (p.o ++ [p.C.f1]) from by simp [intsV]] at h
  · intro L L' sl w' he hI
    rw [← he 4 (by decide +kernel), ← he 7 (by decide +kernel), ← he 8 (by decide +kernel), ← he 9 (by decide +kernel)]
    exact hI
end Go.Proofs.Ytjceapbbapofmaa.Q
