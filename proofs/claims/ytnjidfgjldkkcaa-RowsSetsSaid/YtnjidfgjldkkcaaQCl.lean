/- slices.Clone at rows, walked. -/
import Derived.Test.YtnjidfgjldkkcaaQT
import Derived.LoopTactic
import Derived.Lib.Hide
import Derived.Lib.SliceRun
import Derived.WalkSpells
namespace Go.Proofs.Ytnjidfgjldkkcaa.Q
open Go.RowKit Go.Proofs.YtnjidfgjldkkcaaW.PrintWords Go.Proofs.YtnjidfgjldkkcaaW.PrintLast Go.Proofs.YtnjidfgjldkkcaaW.PrintMore
theorem R_empty {α : Type} (d : Kd α) (e : TypeId) (w : World) : d.R e (w.alloc (.cells #[] e)) w.heap.size (fun _ => True) (.slice (some ⟨w.heap.size, 0, none⟩) 0 0) ([] : List α) := by
  refine ⟨fun _ _ => trivial, [], ?_, ?_⟩
  · have h2 := World.ownsRow_lit (base := w.heap.size) (e := e) (size := d.sz) w #[] 0 (Nat.le_refl _) (by simp [maxLen]) (by simp)
    simpa using h2
  · exact ⟨by simp, fun j p h => by simp at h⟩
theorem nil24 (w : World) (a : Option Addr) (n c : Nat) : (binOp .eql 24 (.slice a n c) (.slice none 0 0)).run Try.prog w = .ok (.bool a.isNone) w := Lib.run_eql_slice_nil w 24 69 a n c 0 0 Try.underlying24
attribute [local go_sem] nil24
def api_Row_67.f (l : List S69) : Option (List S69) := if l.length ≤ 1000000000 then some l else none
set_option maxRecDepth 100000 in
set_option maxHeartbeats 4000000 in
theorem api_Row_67.calls (A0 : Option Addr) (c0 : Nat) (l0 : List S69) (r : List S69) (w : World) (hr0 : Kd.C k69 w A0 l0.length l0) (hc0 : l0.length ≤ c0) (h : api_Row_67.f l0 = some r) :
    Calls Try.prog 67 #[.slice A0 l0.length c0] w fun e w' => ∃ v0_ : Value, e = .returned v0_ ∧ Kd.R k69 69 w' w.heap.size (fun _ => True) v0_ r ∧ Below w.heap.size w w' := by
  unfold api_Row_67.f at h
  split at h
  · rename_i hl
    obtain rfl := Option.some.inj h
    go_enter Try.func67, Try.ntmps67
    cases A0 with
    | none =>
      obtain ⟨h1, _, h3⟩ := hr0
      have hl0 : l0 = [] := by
        rcases Nat.eq_zero_or_pos l0.length with h0 | h0
        · exact List.eq_nil_of_length_eq_zero h0
        · obtain ⟨ad, h, _⟩ := h3 h0
          cases h
      subst hl0
      go_wp2
      go_ret
      exact ⟨.slice none 0 0, rfl, Kd.R_nil _ _ _ _ _, Below.refl _ _⟩
    | some ad =>
      have HR := Aside0.mk (Kd.C_below hr0 (below_alloc (Below.refl w.heap.size w) (.cells #[] 69)))
      have HB := Aside0.mk (below_alloc (Below.refl w.heap.size w) (.cells #[] 69))
      have HL := Aside0.mk hl
      clear hr0 hl
      go_wp2_with ((with_reducible refine gate_builtin (b := .append) (xs := #[.tmp 5, .tmp 6]) rfl ?_); at_builtin; refine Kd.R_append_rows k69 (w0 := w) w.heap.size rfl (.tmp 5) (.tmp 6) 24 69 (.agg #[(.string ⟨#[]⟩), (.string ⟨#[]⟩)]) 32 rfl Try.underlying24 info69 rfl (by decide) (by omega) _ [] l0 (some ad) l0.length c0 (fun _ => True) (fun _ => False) rfl rfl (R_empty k69 69 w) HR.out (fun x cs h => by rw [k69_open h]; exact k69_mkM _ _ _ x) (fun _ h => h.elim) (fun _ _ => trivial) HB.out (below_size HB.out) (by have := HL.out; simp only [List.length_nil]; omega) ?_; intro v1 w1 ho hb hg hat; replace ho := Aside0.mk ho; replace hb := Aside0.mk hb; clear hg hat)
      go_ret
      exact ⟨v1, rfl, ho.out, hb.out⟩
  · cases h
end Go.Proofs.Ytnjidfgjldkkcaa.Q
