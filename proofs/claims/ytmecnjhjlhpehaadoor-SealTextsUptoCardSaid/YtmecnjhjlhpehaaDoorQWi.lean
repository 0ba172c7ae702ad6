/- What holds of the world while seal.without appends to its two rows in whatever order: an invariant, and its steps. -/
import Derived.Test.YtmecnjhjlhpehaaDoorQRi
namespace Go.Proofs.YtmecnjhjlhpehaaDoor.Q
open Go.RowKit Go.Proofs.YtmecnjhjlhpehaaDoorW.PrintWords
set_option linter.unusedVariables false
/-- What the two appends work on. -/
structure WPar where
  w0 : World
  g2 : Nat
  g4 : Nat
  g5 : Nat
  b2 : Array Value
  b4 : Array Value
  f0 : Int
  u3 : Value
  u4 : Value
  m : Nat
  ks : List Value
  cs : List Value
  K : ByteArray
  pc : List Value
structure WInv (p : WPar) (L3 L4 L12 L13 L15 L17 : Bool) (s3 s4 s12 s13 : Value) (w : World) : Prop where
  below : Below p.w0.heap.size p.w0 w
  h2 : w.heap[p.g2]? = some (.cells p.b2 25 (0, 0))
  h4 : w.heap[p.g4]? = some (.cells p.b4 25 (0, 0))
  h5 : w.heap[p.g5]? = some (.cells #[.int .i64 p.f0, .int .i64 0, .string ⟨#[]⟩, (if L15 = true then s4 else p.u3), (if L17 = true then s13 else p.u4)] 25 (0, 0))
  o3 : L4 = false → w.ownsRow (p.g5 + 1) 9 1 p.u3 p.m p.ks
  o3' : L4 = true → w.ownsRow (p.g5 + 1) 9 1 s4 (p.m + 1) (p.ks ++ [.string p.K])
  o4 : L13 = false → w.ownsRow (p.g5 + 1) 25 5 p.u4 p.m p.cs
  o4' : L13 = true → w.ownsRow (p.g5 + 1) 25 5 s13 (p.m + 1) (p.cs ++ p.pc)
  n3 : L3 = true → L4 = false → ∃ g, s3 = .slice (some ⟨g, 0, none⟩) 1 1 ∧ w.heap[g]? = some (.cells #[.string p.K] 9 (0, 0))
  n12 : L12 = true → L13 = false → ∃ g, s12 = .slice (some ⟨g, 0, none⟩) 1 1 ∧ w.heap[g]? = some (.cells p.pc.toArray 25 (0, 0))
theorem own_typ {w : World} {B e s n : Nat} {v : Value} {xs : List Value} (h : w.ownsRow B e s v n xs) {k : Nat} (hk : v.ownBlock = some k) : ∃ cur, w.heap[k]? = some (.cells cur e (0, 0)) := by
  obtain ⟨_, ⟨rfl, _⟩ | ⟨g, cap, cur, rfl, _, hg, _⟩⟩ := h
  · cases hk
  · cases hk; exact ⟨cur, hg⟩
theorem own_apart {w : World} {B e s n : Nat} {v : Value} {xs : List Value} (h : w.ownsRow B e s v n xs) {g : Nat} {c : Array Value} {t : TypeId} {fr : Nat × Nat} (hg : w.heap[g]? = some (.cells c t fr)) (ht : t ≠ e) : some g ≠ v.ownBlock := fun hk => by
  obtain ⟨cur, hc⟩ := own_typ h hk.symm
  rw [hg] at hc
  injection hc with hc
  injection hc with _ hc _
  exact ht hc
theorem own_two {w : World} {B e s n B' e' s' n' : Nat} {v v' : Value} {xs xs' : List Value} (h : w.ownsRow B e s v n xs) (h' : w.ownsRow B' e' s' v' n' xs') (hne : e ≠ e') : v.ownBlock = none ∨ v.ownBlock ≠ v'.ownBlock := by
  cases hv : v.ownBlock with
  | none => exact .inl rfl
  | some k =>
    obtain ⟨cur, hc⟩ := own_typ h hv
    exact .inr (own_apart h' hc hne)
section
variable {p : WPar} {L3 L4 L12 L13 L15 L17 : Bool} {s3 s4 s12 s13 : Value} {w : World}
theorem WInv.drew (h : WInv p L3 L4 L12 L13 L15 L17 s3 s4 s12 s13 w) : WInv p L3 L4 L12 L13 L15 L17 s3 s4 s12 s13 { w with drawn := w.drawn + 1 } :=
  ⟨⟨h.below.os, h.below.tape, h.below.output, h.below.size, h.below.block⟩, h.h2, h.h4, h.h5, h.o3, h.o3', h.o4, h.o4', h.n3, h.n12⟩
theorem WInv.drew' (h : WInv p false false false false false false s3 s4 s12 s13 w) {t3 t4 t12 t13 : Value} : WInv p false false false false false false t3 t4 t12 t13 { w with drawn := w.drawn + 1 } :=
  ⟨⟨h.below.os, h.below.tape, h.below.output, h.below.size, h.below.block⟩, h.h2, h.h4, h.h5, h.o3, (fun e => by cases e), h.o4, (fun e => by cases e), (fun e => by cases e), (fun e => by cases e)⟩
theorem WInv.alloc (h : WInv p L3 L4 L12 L13 L15 L17 s3 s4 s12 s13 w) (o : Obj) : WInv p L3 L4 L12 L13 L15 L17 s3 s4 s12 s13 (w.alloc o) :=
  ⟨below_alloc h.below o, blk_alloc h.h2 o, blk_alloc h.h4 o, blk_alloc h.h5 o, fun e => (h.o3 e).alloc o, fun e => (h.o3' e).alloc o, fun e => (h.o4 e).alloc o, fun e => (h.o4' e).alloc o,
    fun e e' => (h.n3 e e').imp fun g hg => ⟨hg.1, blk_alloc hg.2 o⟩, fun e e' => (h.n12 e e').imp fun g hg => ⟨hg.1, blk_alloc hg.2 o⟩⟩
theorem WInv.new3 (h : WInv p L3 L4 L12 L13 L15 L17 s3 s4 s12 s13 w) : WInv p true L4 L12 L13 L15 L17 (.slice (some ⟨w.heap.size, 0, none⟩) 1 1) s4 s12 s13 (w.alloc (.cells #[.string p.K] 9 (0, 0))) :=
  let k := h.alloc (.cells #[.string p.K] 9 (0, 0))
  ⟨k.below, k.h2, k.h4, k.h5, k.o3, k.o3', k.o4, k.o4', fun _ _ => ⟨_, rfl, blk_new w _⟩, k.n12⟩
theorem WInv.new12 (h : WInv p L3 L4 L12 L13 L15 L17 s3 s4 s12 s13 w) : WInv p L3 L4 true L13 L15 L17 s3 s4 (.slice (some ⟨w.heap.size, 0, none⟩) 1 1) s13 (w.alloc (.cells p.pc.toArray 25 (0, 0))) :=
  let k := h.alloc (.cells p.pc.toArray 25 (0, 0))
  ⟨k.below, k.h2, k.h4, k.h5, k.o3, k.o3', k.o4, k.o4', k.n3, fun _ _ => ⟨_, rfl, blk_new w _⟩⟩
theorem grown_below {w0 w w' : World} {row : Option Nat} (hb : Below w0.heap.size w0 w) (hg : w.grownBy w' row) (hr : ∀ k, row = some k → w0.heap.size ≤ k) : Below w0.heap.size w0 w' :=
  ⟨hg.os.trans hb.os, hg.tape.trans hb.tape, hg.output.trans hb.output, Nat.le_trans hb.size hg.size, fun k hk => (hg.block k (Nat.lt_of_lt_of_le hk hb.size) (fun e => by have := hr k e.symm; omega)).trans (hb.block k hk)⟩
theorem WInv.app4 (h : WInv p L3 false L12 false false false s3 s4 s12 s13 w) (l2 : p.g2 < p.g5) (l4 : p.g4 < p.g5) (l5 : p.w0.heap.size ≤ p.g5) {v : Value} {w' : World} (ho : w'.ownsRow (p.g5 + 1) 9 1 v (p.m + 1) (p.ks ++ [.string p.K])) (hg : w.grownBy w' p.u3.ownBlock) :
    WInv p L3 true L12 false false false s3 v s12 s13 w' := by
  have hlt := (h.o3 rfl).lt
  refine ⟨grown_below h.below hg (fun k hk => by have := (hlt k hk).1; omega), blk_grown h.h2 hg (fun e => by have := (hlt _ e.symm).1; omega), blk_grown h.h4 hg (fun e => by have := (hlt _ e.symm).1; omega), blk_grown h.h5 hg (fun e => by have := (hlt _ e.symm).1; omega), (fun e => by cases e), fun _ => ho, fun e => (h.o4 e).kept hg (own_two (h.o4 e) (h.o3 rfl) (by decide)), (fun e => by cases e), (fun _ e => by cases e), fun e e' => ?_⟩
  obtain ⟨g, hs, hb⟩ := h.n12 e e'
  exact ⟨g, hs, blk_grown hb hg (own_apart (h.o3 rfl) hb (by decide))⟩
theorem WInv.app13 (h : WInv p L3 true L12 false false false s3 s4 s12 s13 w) (l2 : p.g2 < p.g5) (l4 : p.g4 < p.g5) (l5 : p.w0.heap.size ≤ p.g5) {v : Value} {w' : World} (ho : w'.ownsRow (p.g5 + 1) 25 5 v (p.m + 1) (p.cs ++ p.pc)) (hg : w.grownBy w' p.u4.ownBlock) :
    WInv p L3 true L12 true false false s3 s4 s12 v w' := by
  have hlt := (h.o4 rfl).lt
  exact ⟨grown_below h.below hg (fun k hk => by have := (hlt k hk).1; omega), blk_grown h.h2 hg (fun e => by have := (hlt _ e.symm).1; omega), blk_grown h.h4 hg (fun e => by have := (hlt _ e.symm).1; omega), blk_grown h.h5 hg (fun e => by have := (hlt _ e.symm).1; omega), (fun e => by cases e), fun e => (h.o3' e).kept hg (own_two (h.o3' e) (h.o4 rfl) (by decide)), (fun e => by cases e), fun _ => ho, (fun _ e => by cases e), (fun _ e => by cases e)⟩
theorem set_own {w : World} {B e s n g o : Nat} {v u : Value} {xs : List Value} (h : w.ownsRow B e s v n xs) (hg : g < B) : (w.setCell ⟨g, o, none⟩ u).ownsRow B e s v n xs := ownsRow_setCell_below h hg u
theorem WInv.put15 (h : WInv p L3 true L12 true false false s3 s4 s12 s13 w) (l2 : p.g2 ≠ p.g5) (l4 : p.g4 ≠ p.g5) (l5 : p.w0.heap.size ≤ p.g5) : WInv p L3 true L12 true true false s3 s4 s12 s13 (w.setCell ⟨p.g5, 3, none⟩ s4) :=
  ⟨below_set h.below l5, blk_far h.h2 l2 _, blk_far h.h4 l4 _, blk_put (cs := #[.int .i64 p.f0, .int .i64 0, .string ⟨#[]⟩, p.u3, p.u4]) h.h5 3 _ rfl, (fun e => by cases e), fun e => set_own (h.o3' e) (Nat.lt_succ_self _), (fun e => by cases e), fun e => set_own (h.o4' e) (Nat.lt_succ_self _), (fun _ e => by cases e), (fun _ e => by cases e)⟩
theorem WInv.put17 (h : WInv p L3 true L12 true true false s3 s4 s12 s13 w) (l2 : p.g2 ≠ p.g5) (l4 : p.g4 ≠ p.g5) (l5 : p.w0.heap.size ≤ p.g5) : WInv p L3 true L12 true true true s3 s4 s12 s13 (w.setCell ⟨p.g5, 4, none⟩ s13) :=
  ⟨below_set h.below l5, blk_far h.h2 l2 _, blk_far h.h4 l4 _, blk_put (cs := #[.int .i64 p.f0, .int .i64 0, .string ⟨#[]⟩, s4, p.u4]) h.h5 4 _ rfl, (fun e => by cases e), fun e => set_own (h.o3' e) (Nat.lt_succ_self _), (fun e => by cases e), fun e => set_own (h.o4' e) (Nat.lt_succ_self _), (fun _ e => by cases e), (fun _ e => by cases e)⟩
end
end Go.Proofs.YtmecnjhjlhpehaaDoor.Q
