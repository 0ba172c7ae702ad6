/- What a method may turn: blocks of some element types, from a number on. -/
import Derived.Test.YtjceapbbapofmaaQT
namespace Go.Proofs.Ytjceapbbapofmaa.Q
open Go.RowKit Go.Proofs.YtjceapbbapofmaaW.PrintWords Go.Proofs.YtjceapbbapofmaaW.PrintLast Go.Proofs.YtjceapbbapofmaaW.PrintMore
/-- From w to w' at most blocks from B on, of the types T, have turned. -/
structure ModT (T : List Nat) (B : Nat) (w w' : World) : Prop where
  os : w'.os = w.os
  tape : w'.tape = w.tape
  output : w'.output = w.output
  size : w.heap.size ≤ w'.heap.size
  block : ∀ k, k < w.heap.size → w'.heap[k]? = w.heap[k]? ∨ (B ≤ k ∧ ∃ q, q ∈ T ∧ ∃ c, w.heap[k]? = some (.cells c q (0, 0)))
theorem ModT.refl (T : List Nat) (B : Nat) (w : World) : ModT T B w w := ⟨rfl, rfl, rfl, Nat.le_refl _, fun _ _ => .inl rfl⟩
theorem ModT.trans {T : List Nat} {B : Nat} {w w1 w2 : World} (h : ModT T B w w1) (k : ModT T B w1 w2) : ModT T B w w2 := by
  refine ⟨k.os.trans h.os, k.tape.trans h.tape, k.output.trans h.output, Nat.le_trans h.size k.size, fun i hi => ?_⟩
  rcases h.block i hi with h1 | h1
  · rcases k.block i (Nat.lt_of_lt_of_le hi h.size) with h2 | ⟨hB, q, hq, c, hc⟩
    · exact .inl (h2.trans h1)
    · exact .inr ⟨hB, q, hq, c, h1.symm.trans hc⟩
  · exact .inr h1
theorem ModT.weaken {T T' : List Nat} {B B' : Nat} {w w' : World} (h : ModT T B w w') (hT : ∀ q, q ∈ T → q ∈ T') (hB : B' ≤ B) : ModT T' B' w w' :=
  ⟨h.os, h.tape, h.output, h.size, fun k hk => (h.block k hk).imp id fun ⟨hb, q, hq, hc⟩ => ⟨Nat.le_trans hB hb, q, hT q hq, hc⟩⟩
theorem ModT.of_below {T : List Nat} {B : Nat} {w w' : World} (h : Below w.heap.size w w') : ModT T B w w' := ⟨h.os, h.tape, h.output, h.size, fun k hk => .inl (h.block k hk)⟩
theorem ModT.of_grown {T : List Nat} {B : Nat} {w w' : World} {row : Option Nat} (h : w.grownBy w' row) (hr : ∀ k, row = some k → B ≤ k ∧ ∃ q, q ∈ T ∧ ∃ c, w.heap[k]? = some (.cells c q (0, 0))) : ModT T B w w' := by
  refine ⟨h.os, h.tape, h.output, h.size, fun k hk => ?_⟩
  by_cases e : some k = row
  · exact .inr (hr k e.symm)
  · exact .inl (h.block k hk e)
theorem ModT.grown {T : List Nat} {B e : Nat} {α : Type} {d : Kd α} {w w' : World} {base : Nat} {ok : Nat → Prop} {v : Value} {xs : List α} (h : w.grownBy w' v.ownBlock) (hR : d.R e w base ok v xs) (he : e ∈ T) (hB : B ≤ base) : ModT T B w w' :=
  ModT.of_grown h fun k hk => ⟨Nat.le_trans hB (Kd.R_base hR k hk), e, he, Kd.R_typed hR k hk⟩
theorem ModT.set_ {T : List Nat} {B g t j : Nat} {w : World} {cs : Array Value} (h : w.heap[g]? = some (.cells cs t (0, 0))) (ht : t ∈ T) (hB : B ≤ g) (u : Value) : ModT T B w (w.setCell ⟨g, j, none⟩ u) := by
  refine ⟨rfl, rfl, rfl, by simp [World.setCell], fun k hk => ?_⟩
  by_cases e : k = g
  · subst e; exact .inr ⟨hB, t, ht, cs, h⟩
  · exact .inl (Below.heap_setCell w _ _ k e)
theorem ModT.alloc (T : List Nat) (B : Nat) (w : World) (o : Obj) : ModT T B w (w.alloc o) := ModT.of_below (below_alloc (Below.refl _ _) o)
theorem ModT.drewN (T : List Nat) (B : Nat) (w : World) (n : Nat) : ModT T B w (w.drewN n) := ModT.of_below (pw_below_drewN (Below.refl _ _) n)
theorem ModT.below {T : List Nat} {B : Nat} {w0 w w' : World} (h : ModT T B w w') (hb : Below B w0 w) (hB : B ≤ w.heap.size) : Below B w0 w' := by
  refine hb.trans ⟨h.os, h.tape, h.output, h.size, fun k hk => ?_⟩
  rcases h.block k (Nat.lt_of_lt_of_le hk hB) with h1 | h1
  · exact h1
  · exact absurd hk (Nat.not_lt.2 h1.1)
theorem ModT.own {T : List Nat} {B : Nat} {w w' : World} (h : ModT T B w w') (hB : B = w.heap.size) : Below w.heap.size w w' := hB ▸ h.below (Below.refl _ _) (Nat.le_of_eq hB)
theorem ModT.keep {T : List Nat} {B g t : Nat} {w w' : World} {cs : Array Value} (h : ModT T B w w') (hc : w.heap[g]? = some (.cells cs t (0, 0))) (ht : t ∉ T) : w'.heap[g]? = some (.cells cs t (0, 0)) := by
  rcases h.block g (blk_lt hc) with h1 | ⟨_, q, hq, c, h2⟩
  · exact h1.trans hc
  · rw [hc] at h2
    injection h2 with h2
    injection h2 with _ h2
    subst h2
    exact absurd hq ht
theorem ModT.keep' {T : List Nat} {B g : Nat} {w w' : World} {o : Obj} (h : ModT T B w w') (hc : w.heap[g]? = some o) (ht : ∀ q, q ∈ T → ∀ cs, o ≠ .cells cs q (0, 0)) : w'.heap[g]? = some o := by
  rcases h.block g (blk_lt hc) with h1 | ⟨_, q, hq, c, h2⟩
  · exact h1.trans hc
  · rw [hc] at h2
    injection h2 with h2
    exact absurd h2 (ht q hq c)
theorem ModT.R {T : List Nat} {B e : Nat} {α : Type} {d : Kd α} {w w' : World} {base : Nat} {ok : Nat → Prop} {v : Value} {xs : List α} (h : ModT T B w w') (hR : d.R e w base ok v xs) (hT : ∀ q, q ∈ e :: d.E → q ∉ T) : d.R e w' base ok v xs := by
  refine Kd.R_mono (Kd.R_move (Kd.R_bound hR) fun k hk => ?_) (fun k hk => hk.1)
  obtain ⟨_, _, hlt, q, hq, c, hc⟩ := hk
  rw [hc]
  exact h.keep hc (hT q hq)
theorem heap_set1 {w : World} {g t j : Nat} {cs : Array Value} {u : Value} (h : w.heap[g]? = some (.cells cs t (0, 0))) : (w.setCell ⟨g, j, none⟩ u).heap[g]? = some (.cells (cs.setIfInBounds j u) t (0, 0)) := blk_set h j u
end Go.Proofs.Ytjceapbbapofmaa.Q
