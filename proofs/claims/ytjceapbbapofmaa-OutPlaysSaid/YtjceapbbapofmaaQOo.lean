/- out.Out's methods, walked: Push. -/
import Derived.Test.YtjceapbbapofmaaPlOut
import Derived.Test.YtjceapbbapofmaaQMt
namespace Go.Proofs.Ytjceapbbapofmaa.Q
open Go.RowKit Go.Proofs.YtjceapbbapofmaaW.PrintWords Go.Proofs.YtjceapbbapofmaaW.PrintLast Go.Proofs.YtjceapbbapofmaaW.PrintMore Go.Proofs.Ytjceapbbapofmaa.Plain
/-- The struct lies at g. -/
def OutAt (w : World) (base g : Nat) (ob : Option Nat) (s : OSt) : Prop := ∃ A c, (Value.slice A s.items.length c).ownBlock = ob ∧ w.heap[g]? = some (.cells #[.slice A s.items.length c, .int .i64 s.size, .int .i64 s.batch, .bool s.away, .int .i64 s.fails, .int .i64 s.clock, .int .i64 s.frm] 70 (0, 0)) ∧ base ≤ g ∧ Kd.string.R 9 w base (fun _ => True) (.slice A s.items.length c) s.items
/-- From w to w' at most the struct's block and the items' row have turned. -/
structure ModO (g : Nat) (ob : Option Nat) (base : Nat) (w w' : World) : Prop where
  modT : ModT [70, 9] base w w'
  only : ∀ k, k < w.heap.size → k = g ∨ some k = ob ∨ w'.heap[k]? = w.heap[k]?
theorem ModO.refl (g : Nat) (ob : Option Nat) (base : Nat) (w : World) : ModO g ob base w w := ⟨ModT.refl _ _ _, fun _ _ => .inr (.inr rfl)⟩
theorem ModO.trans {g base : Nat} {ob : Option Nat} {w w1 w2 : World} (h : ModO g ob base w w1) (h' : ModO g ob base w1 w2) : ModO g ob base w w2 := by
  refine ⟨h.modT.trans h'.modT, fun k hk => ?_⟩
  rcases h.only k hk with h1 | h1 | h1
  · exact .inl h1
  · exact .inr (.inl h1)
  rcases h'.only k (Nat.lt_of_lt_of_le hk h.modT.size) with h2 | h2 | h2
  · exact .inl h2
  · exact .inr (.inl h2)
  · exact .inr (.inr (h2.trans h1))
theorem ModO.of_below {g base : Nat} {ob : Option Nat} {w w1 : World} (h : Below w.heap.size w w1) : ModO g ob base w w1 := ⟨ModT.of_below h, fun k hk => .inr (.inr (h.block k hk))⟩
theorem ModO.drewN (g : Nat) (ob : Option Nat) (base : Nat) (w : World) (n : Nat) : ModO g ob base w (w.drewN n) := ModO.of_below (pw_below_drewN (Below.refl _ _) n)
/-- Where the items lie behind it. -/
def Nxt (w : World) (ob ob' : Option Nat) : Prop := ob' = ob ∨ ∀ k, ob' = some k → w.heap.size ≤ k
/-- How a method ends. -/
def OPost (base g : Nat) (ob : Option Nat) (w : World) (r : Value) (s : OSt) (e : Ending) (w' : World) : Prop := e = .returned r ∧ (∃ ob', OutAt w' base g ob' s ∧ Nxt w ob ob') ∧ ModO g ob base w w'
theorem E9 : ∀ q, q ∈ 9 :: Kd.string.E → q = 9 := by
  intro q hq
  simpa [Kd.string, Kd.scalar] using hq
theorem OutAt.mod {w w' : World} {base g : Nat} {ob : Option Nat} {s : OSt} {T : List Nat} (h : OutAt w base g ob s) (hm : ModT T base w w') (h7 : 70 ∉ T) (h9 : 9 ∉ T) : OutAt w' base g ob s := by
  obtain ⟨A, c, hb, h1, h2, h3⟩ := h
  exact ⟨A, c, hb, hm.keep h1 h7, h2, hm.R h3 (fun q hq => by rw [E9 q hq]; exact h9)⟩
theorem OutAt.below {w w' : World} {base g : Nat} {ob : Option Nat} {s : OSt} (h : OutAt w base g ob s) (hb : Below w.heap.size w w') : OutAt w' base g ob s := h.mod (ModT.of_below hb) (List.not_mem_nil) (List.not_mem_nil)
/-- A field is written. -/
theorem ModO.set7 {base g j : Nat} {ob : Option Nat} {w : World} {cs : Array Value} {u : Value} (h : w.heap[g]? = some (.cells cs 70 (0, 0))) (hB : base ≤ g) : ModO g ob base w (w.setCell ⟨g, j, none⟩ u) := by
  refine ⟨ModT.set_ h (by simp) hB u, fun k _ => ?_⟩
  by_cases e : k = g
  · exact .inl e
  · exact .inr (.inr (Below.heap_setCell w _ _ k e))
set_option maxRecDepth 100000 in
set_option maxHeartbeats 8000000 in
theorem push_walk (base g : Nat) (ob : Option Nat) (s : OSt) (u : ByteArray) (w : World) (h : OutAt w base g ob s) (hu : u.size ≤ 140737488351232) (hi : s.items.length ≤ 60) :
    Calls Try.prog 59 #[.pointer (some ⟨g, 0, none⟩), .string u] w (OPost base g ob w (.int .i64 (pushF s u).1) (pushF s u).2) := by
  obtain ⟨A, c, hob, h1, h2, h3⟩ := h
  have hA : OutAt w base g ob s := ⟨A, c, hob, h1, h2, h3⟩
  have HOB := Aside0.mk hob
  clear hob
  have HA := Aside0.mk hA
  by_cases e0 : u.size < 1
  · have hr : Aside0 (pushF s u = (1, s)) := ⟨by unfold pushF; rw [if_pos (.inl e0)]⟩
    have e : u.toList = [] := by
      rw [Go.ByteArray.toList_eq]
      exact List.eq_nil_of_length_eq_zero (by rw [Array.length_toList]; have : u.data.size = u.size := rfl; omega)
    clear h1 h2 h3 hA e0
    go_enter Try.func59, Try.ntmps59
    go_wp2
    go_ret
    rw [hr.out]
    exact ⟨rfl, ⟨ob, HA.out, .inl rfl⟩, ModO.refl _ _ _ _⟩
  have e1 : u.toList.isEmpty = false := by
    rw [Go.ByteArray.toList_eq, List.isEmpty_eq_false_iff]
    intro e
    have := congrArg List.length e
    rw [Array.length_toList] at this
    exact e0 (by have h0 : u.data.size = 0 := this; have h : u.data.size = u.size := rfl; omega)
  by_cases e2 : 20 < u.size
  · have hr : Aside0 (pushF s u = (1, s)) := ⟨by unfold pushF; rw [if_pos (.inr e2)]⟩
    have e2' : (20 : Int) < (u.size : Int) := by omega
    clear h1 h2 h3 hA
    go_enter Try.func59, Try.ntmps59
    go_wp2
    go_ret
    rw [hr.out]
    exact ⟨rfl, ⟨ob, HA.out, .inl rfl⟩, ModO.refl _ _ _ _⟩
  have e2' : ¬ (20 : Int) < (u.size : Int) := by omega
  have z0 : w.cell? ⟨g, 0, none⟩ = some (.slice A s.items.length c) := by rw [blk_cell h1]; rfl
  by_cases e3 : s.items.length = 60
  · have hr : Aside0 (pushF s u = (10, s)) := ⟨by unfold pushF; rw [if_neg (by omega), if_pos e3]⟩
    have e3' : ((s.items.length : Int) == 60) = true := by rw [e3]; rfl
    clear h1 h2 h3 hA e3
    go_enter Try.func59, Try.ntmps59
    go_wp2
    go_ret
    rw [hr.out]
    exact ⟨rfl, ⟨ob, HA.out, .inl rfl⟩, ModO.refl _ _ _ _⟩
  have hr : Aside0 (pushF s u = (0, { s with items := s.items ++ [u] })) := ⟨by unfold pushF; rw [if_neg (by omega), if_neg e3]⟩
  have e3' : ((s.items.length : Int) == 60) = false := beq_false_of_ne (by omega)
  have H1 := Aside0.mk h1
  have HO := Aside0.mk h3
  have hgl := blk_lt h1
  have hbl : base ≤ w.heap.size := by omega
  clear h1 h3 hA e3
  go_enter Try.func59, Try.ntmps59
  go_wp2_with ((with_reducible refine gate_builtin (b := .append) (xs := #[.tmp 24, .tmp 26]) rfl ?_); at_builtin; refine Kd.R_append Kd.string (w0 := w) base rfl (.tmp 24) (.tmp 26) 32 9 (.string ⟨#[]⟩) 16 rfl Try.underlying32 info9 rfl (by decide) (by omega) (.slice A s.items.length c) s.items u [.string u] (fun _ => True) (fun _ => False) rfl rfl rfl (fun _ hk => hk.elim) (fun _ _ => trivial) HO.out (Below.refl _ _) hbl (by omega) ?_; intro v1 w1 ho hb hg hat; obtain ⟨A1, c1, rfl⟩ := Kd.R_slice ho; have hm : ModO g ob base w w1 := ⟨ModT.grown (T := [70, 9]) hg HO.out (by simp) (Nat.le_refl _), fun k hk => (by by_cases e : some k = ob; exact .inr (.inl e); exact .inr (.inr (hg.block k hk (by rw [HOB.out]; exact e))))⟩; have h1' := (ModT.grown (T := [9]) hg HO.out (by simp) (Nat.le_refl _)).keep H1.out (by simp); have z1 : w1.cell? ⟨g, 0, none⟩ = some (.slice A s.items.length c) := (by rw [blk_cell h1']; rfl); have f1 := blk_frozen h1' 0; have HO1 := Aside0.mk ho; have HM := Aside0.mk hm; have H1' := Aside0.mk h1'; have HAT := Aside0.mk hat; clear ho hb hg hat hm h1')
  go_ret
  rw [hr.out]
  refine ⟨rfl, ⟨_, ⟨A1, c1, rfl, by rw [heap_set1 H1'.out]; simp, h2, ?_⟩, ?_⟩, HM.out.trans (ModO.set7 H1'.out h2)⟩
  case refine_2 =>
    rcases HAT.out with h | ⟨k, h, hk⟩
    · exact .inl (h.trans HOB.out)
    · exact .inr (fun j hj => by rw [h.symm.trans hj |> Option.some.inj] at hk; exact hk)
  have := Kd.R_set HO1.out H1'.out (fun q hq => by rw [E9 q hq]; decide) 0 (.slice A1 (s.items ++ [u]).length c1)
  simpa using this
end Go.Proofs.Ytjceapbbapofmaa.Q
