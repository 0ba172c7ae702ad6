/- A map of rows (key: the keys that it vouches for), as it lies in memory; what holds while a row of it grows. -/
import Derived.Test.YtjceapbbapofmaaQRi
import Derived.Maps.RangeWalk
import Derived.Maps.OwnSet
import Derived.Maps.OwnOps
import Derived.Deep.AppendLies
import Derived.Sort.OwnSortedInts
namespace Go.Proofs.Ytjceapbbapofmaa.Q
open Go.RowKit Go.Maps Go.Proofs.YtjceapbbapofmaaW.PrintWords
set_option linter.unusedVariables false
/-- A slice as an element of a map: told by itself. -/
def heldR : Value → Option (DataW Value × List MemPlace)
  | .slice a n c => some (.held (.slice a n c), [])
  | _ => none
theorem heldR_inv {v : Value} {x : Value} {ps : List MemPlace} (h : heldR v = some (.held x, ps)) : v = x := by
  unfold heldR at h
  split at h
  · simp only [Option.some.injEq, Prod.mk.injEq, DataW.held.injEq] at h; exact h.1
  · cases h
theorem heldR_form {v : Value} {y : DataW Value × List MemPlace} (h : heldR v = some y) : ∃ a n c, v = .slice a n c ∧ y = (.held (.slice a n c), []) := by
  unfold heldR at h
  split at h
  · cases h; exact ⟨_, _, _, rfl, rfl⟩
  · cases h
abbrev nilS : Value := .slice none 0 0
abbrev keyL (k : Int) : Lit := .int .i64 k
theorem K3 : Keyed Try.prog 3 := int_keyed Try.underlying3
theorem own_typ {w : World} {B e s n : Nat} {v : Value} {xs : List Value} (h : w.ownsRow B e s v n xs) {k : Nat} (hk : v.ownBlock = some k) : ∃ cur, w.heap[k]? = some (.cells cur e (0, 0)) := by
  obtain ⟨_, ⟨rfl, _⟩ | ⟨g, cap, cur, rfl, _, hg, _⟩⟩ := h
  · cases hk
  · cases hk; exact ⟨cur, hg⟩
theorem own_apart {w : World} {B e s n : Nat} {v : Value} {xs : List Value} (h : w.ownsRow B e s v n xs) {g : Nat} {c : Array Value} {t : TypeId} {fr : Nat × Nat} (hg : w.heap[g]? = some (.cells c t fr)) (ht : t ≠ e) : some g ≠ v.ownBlock := fun hk => by
  obtain ⟨cur, hc⟩ := own_typ h hk.symm
  rw [hg] at hc
  injection hc with hc
  injection hc with _ hc _
  exact ht hc
theorem own_map {w : World} {B e s n : Nat} {v : Value} {xs : List Value} (h : w.ownsRow B e s v n xs) {P : Program} {k : TypeId} {R : Value → Option (DataW Value × List MemPlace)} {b m : Nat} {D : DataW Value} (hm : w.ownsMap P k R b m D) : some b ≠ v.ownBlock := fun hk => by
  obtain ⟨cur, hc⟩ := own_typ h hk.symm
  obtain ⟨es, clock, hb, _⟩ := hm
  rw [hb] at hc
  cases hc
theorem own_form {w : World} {B e s n : Nat} {v : Value} {xs : List Value} (h : w.ownsRow B e s v n xs) (hn : n ≠ 0) : ∃ g c, v = .slice (some ⟨g, 0, none⟩) n c := by
  obtain ⟨_, ⟨_, h0⟩ | ⟨g, cap, cur, hv, _⟩⟩ := h
  · exact absurd h0 hn
  · exact ⟨g, cap, hv⟩
theorem own_slice {w : World} {B e s n : Nat} {v : Value} {xs : List Value} (h : w.ownsRow B e s v n xs) : ∃ A c, v = .slice A n c := by
  obtain ⟨_, ⟨h, rfl⟩ | ⟨g, cap, cur, hv, _⟩⟩ := h
  · exact ⟨none, 0, h⟩
  · exact ⟨_, _, hv⟩
theorem grown_below {w0 w w' : World} {row : Option Nat} (hb : Below w0.heap.size w0 w) (hg : w.grownBy w' row) (hr : ∀ k, row = some k → w0.heap.size ≤ k) : Below w0.heap.size w0 w' :=
  ⟨hg.os.trans hb.os, hg.tape.trans hb.tape, hg.output.trans hb.output, Nat.le_trans hb.size hg.size, fun k hk => (hg.block k (Nat.lt_of_lt_of_le hk hb.size) (fun e => by have := hr k e.symm; omega)).trans (hb.block k hk)⟩
abbrev intsV (l : List Int) : List Value := l.map (Value.int .i64)
/-- The map of rows. -/
structure GAt (w : World) (b base n : Nat) (D : DataW Value) (vf : Int → Value) (rf : Int → List Int) : Prop where
  map : w.ownsMap Try.prog 3 heldR b n D
  isAt : ∀ k, D.atKey (keyL k) (.held nilS) = .held (vf k)
  own : ∀ k, w.ownsRow base 3 1 (vf k) (rf k).length (intsV (rf k))
  apart : ∀ k k', k ≠ k' → (vf k).ownBlock = none ∨ (vf k).ownBlock ≠ (vf k').ownBlock
theorem GAt.kept {w w' : World} {b base n : Nat} {D : DataW Value} {vf : Int → Value} {rf : Int → List Int} (h : GAt w b base n D vf rf) (hb : Below w.heap.size w w') : GAt w' b base n D vf rf :=
  have hg : w.grownBy w' none := ⟨hb.os, hb.tape, hb.output, hb.size, fun k hk _ => hb.block k hk⟩
  ⟨h.map.kept hg (by simp), h.isAt, fun k => (h.own k).kept hg (by cases (vf k).ownBlock <;> simp), h.apart⟩
/-- What an append to the row at k, and the store of it, work on. -/
structure GPar where
  w0 : World
  b : Nat
  base : Nat
  n : Nat
  D : DataW Value
  vf : Int → Value
  rf : Int → List Int
  k : Int
  t : Int
  gc : Nat
  bc : Array Value
structure GInv (p : GPar) (L9 L10 L11 : Bool) (s9 s10 : Value) (w : World) : Prop where
  below : Below p.w0.heap.size p.w0 w
  hc : w.heap[p.gc]? = some (.cells p.bc 52 (0, 0))
  map : L11 = false → w.ownsMap Try.prog 3 heldR p.b p.n p.D
  map' : L11 = true → w.ownsMap Try.prog 3 heldR p.b (p.n + 1) (p.D.put (keyL p.k) (.held s10))
  rows : ∀ j, j ≠ p.k → w.ownsRow p.base 3 1 (p.vf j) (p.rf j).length (intsV (p.rf j))
  own : L10 = false → w.ownsRow p.base 3 1 (p.vf p.k) (p.rf p.k).length (intsV (p.rf p.k))
  own' : L10 = true → w.ownsRow p.base 3 1 s10 ((p.rf p.k).length + 1) (intsV (p.rf p.k) ++ [.int .i64 p.t])
  apart' : L10 = true → ∀ j, j ≠ p.k → (p.vf j).ownBlock = none ∨ (p.vf j).ownBlock ≠ s10.ownBlock
  n9 : L9 = true → L10 = false → ∃ g, s9 = .slice (some ⟨g, 0, none⟩) 1 1 ∧ w.heap[g]? = some (.cells #[.int .i64 p.t] 3 (0, 0))
section
variable {p : GPar} {L9 L10 L11 : Bool} {s9 s10 : Value} {w : World}
theorem GInv.drew (h : GInv p false false false s9 s10 w) {t9 t10 : Value} : GInv p false false false t9 t10 { w with drawn := w.drawn + 1 } :=
  ⟨⟨h.below.os, h.below.tape, h.below.output, h.below.size, h.below.block⟩, h.hc, h.map, (fun e => by cases e), h.rows, h.own, (fun e => by cases e), (fun e => by cases e), (fun e => by cases e)⟩
theorem GInv.new9 (h : GInv p L9 L10 L11 s9 s10 w) : GInv p true L10 L11 (.slice (some ⟨w.heap.size, 0, none⟩) 1 1) s10 (w.alloc (.cells #[.int .i64 p.t] 3 (0, 0))) :=
  ⟨below_alloc h.below _, blk_alloc h.hc _, fun e => (h.map e).alloc _, fun e => (h.map' e).alloc _, fun j hj => (h.rows j hj).alloc _, fun e => (h.own e).alloc _, fun e => (h.own' e).alloc _, h.apart', fun _ _ => ⟨_, rfl, blk_new w _⟩⟩
theorem GInv.app10 (h : GInv p L9 false false s9 s10 w) (hb : p.w0.heap.size ≤ p.base) (hap : ∀ j, j ≠ p.k → (p.vf j).ownBlock = none ∨ (p.vf j).ownBlock ≠ (p.vf p.k).ownBlock) {g cap : Nat} {w' : World}
    (ho : w'.ownsRow p.base 3 1 (.slice (some ⟨g, 0, none⟩) ((p.rf p.k).length + 1) cap) ((p.rf p.k).length + 1) (intsV (p.rf p.k) ++ [.int .i64 p.t])) (hg : w.grownBy w' (p.vf p.k).ownBlock) (hat : (p.vf p.k).ownBlock = some g ∨ g = w.heap.size) :
    GInv p L9 true false s9 (.slice (some ⟨g, 0, none⟩) ((p.rf p.k).length + 1) cap) w' := by
  have hlt := (h.own rfl).lt
  refine ⟨grown_below h.below hg (fun k hk => Nat.le_trans hb (hlt k hk).1), blk_grown h.hc hg (own_apart (h.own rfl) h.hc (by decide)), fun _ => (h.map rfl).kept hg (own_map (h.own rfl) (h.map rfl)), (fun e => by cases e), fun j hj => (h.rows j hj).kept hg (hap j hj), (fun e => by cases e), fun _ => ho, fun _ j hj => ?_, (fun _ e => by cases e)⟩
  rcases hat with hat | hat
  · rw [← show (p.vf p.k).ownBlock = (Value.slice (some ⟨g, 0, none⟩) ((p.rf p.k).length + 1) cap).ownBlock from hat]
    exact hap j hj
  · cases hv : (p.vf j).ownBlock with
    | none => exact .inl rfl
    | some q =>
      refine .inr fun e => ?_
      have := ((h.rows j hj).lt q hv).2
      injection e with e
      simp only at e
      omega
/-- The store. -/
theorem GInv.put11 (h : GInv p L9 true false s9 s10 w) (hb : p.w0.heap.size ≤ p.b) {w' : World} (hm : w'.ownsMap Try.prog 3 heldR p.b (p.n + 1) (p.D.put (keyL p.k) (.held s10))) (hg : w.grownBy w' (some p.b)) : GInv p L9 true true s9 s10 w' := by
  have hne : ∀ {v : Value} {m : Nat} {xs : List Value}, w.ownsRow p.base 3 1 v m xs → v.ownBlock = none ∨ v.ownBlock ≠ some p.b := fun {v} {m} {xs} ho => by
    cases hv : v.ownBlock with
    | none => exact .inl rfl
    | some q => exact .inr fun e => own_map ho (h.map rfl) (by rw [hv]; exact e.symm)
  have hcb : some p.gc ≠ some p.b := fun e => by
    obtain ⟨es, clock, hb', _⟩ := h.map rfl
    injection e with e
    have := h.hc
    rw [e, hb'] at this
    cases this
  exact ⟨grown_below h.below hg (fun k hk => by cases hk; exact hb), blk_grown h.hc hg hcb, (fun e => by cases e), fun _ => hm, fun j hj => (h.rows j hj).kept hg (hne (h.rows j hj)), (fun e => by cases e), fun _ => (h.own' rfl).kept hg (hne (h.own' rfl)), h.apart', (fun _ e => by cases e)⟩
/-- The map of rows behind it. -/
theorem GInv.done (h : GInv p L9 true true s9 s10 w) (hi : IsMap p.D) (hat : ∀ j, p.D.atKey (keyL j) (.held nilS) = .held (p.vf j)) (hap : ∀ j j', j ≠ j' → (p.vf j).ownBlock = none ∨ (p.vf j).ownBlock ≠ (p.vf j').ownBlock) :
    GAt w p.b p.base (p.n + 1) (p.D.put (keyL p.k) (.held s10)) (fun j => if j = p.k then s10 else p.vf j) (fun j => if j = p.k then p.rf p.k ++ [p.t] else p.rf j) := by
  refine ⟨h.map' rfl, fun j => ?_, fun j => ?_, fun j j' hne => ?_⟩
  · by_cases hj : j = p.k
    · subst hj
      rw [if_pos rfl]
      exact atKey_put_same hi (by trivial) _ _
    · rw [if_neg hj, ← hat j]
      exact atKey_put_other (fun e => hj (by injection e)) _ _
  · by_cases hj : j = p.k
    · subst hj
      simp only [if_pos]
      rw [List.length_append, intsV, List.map_append]
      exact h.own' rfl
    · simp only [if_neg hj]
      exact h.rows j hj
  · by_cases hj : j = p.k
    · by_cases hj' : j' = p.k
      · exact absurd (hj.trans hj'.symm) hne
      · simp only [if_pos hj, if_neg hj']
        have := h.apart' rfl j' hj'
        cases hs : s10.ownBlock with
        | none => exact .inl rfl
        | some q =>
          rw [hs] at this
          refine .inr fun e => ?_
          rw [← e] at this
          rcases this with h1 | h1
          · cases h1
          · exact h1 rfl
    · by_cases hj' : j' = p.k
      · simp only [if_neg hj, if_pos hj']
        exact h.apart' rfl j hj
      · simp only [if_neg hj, if_neg hj']
        exact hap j j' hne
end
end Go.Proofs.Ytjceapbbapofmaa.Q
