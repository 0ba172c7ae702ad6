/- wal.frame, walked. -/
import Derived.Test.YtnjidfgjldkkcaaQWs
namespace Go.Proofs.Ytnjidfgjldkkcaa.Q
open Go.RowKit Go.Proofs.YtnjidfgjldkkcaaW.PrintWords Go.Proofs.YtnjidfgjldkkcaaW.PrintLast Go.Proofs.YtnjidfgjldkkcaaW.PrintMore
def flagOf (b : Bool) : Int := if b then 1 else 0
def frameB (record : List Int) (last : Bool) : List Int := [(record.length : Int) % 256, flagOf last] ++ record
def frameF (record : List Int) (last : Bool) : List Int := frameB record last ++ [(sumsF 0 0 (frameB record last)).1 % 256, (sumsF 0 0 (frameB record last)).2 % 256]
theorem C_pair (t : TypeId) (w : World) (x y : Int) : Kd.C (Kd.int .u8) (w.alloc (.cells #[.int .u8 x, .int .u8 y] t)) (some ⟨w.heap.size, 0, none⟩) 2 [x, y] := by
  have BK : (w.alloc (.cells #[.int .u8 x, .int .u8 y] t)).heap[w.heap.size]? = some (.cells #[.int .u8 x, .int .u8 y] t (0, 0)) := blk_new _ _
  refine ⟨rfl, by omega, fun _ => ⟨⟨w.heap.size, 0, none⟩, rfl, fun j p hj => ?_⟩⟩
  match j, hj with
  | 0, hj =>
    obtain rfl : x = p := by simpa using hj
    refine ⟨[.int .u8 x], rfl, rfl, fun i u hi => ?_⟩
    match i, hi with
    | 0, hi =>
      obtain rfl : _ = u := by simpa using hi
      exact (blk_cell BK 0).trans rfl
    | i + 1, hi => simp at hi
  | 1, hj =>
    obtain rfl : y = p := by simpa using hj
    refine ⟨[.int .u8 y], rfl, rfl, fun i u hi => ?_⟩
    match i, hi with
    | 0, hi =>
      obtain rfl : _ = u := by simpa using hi
      exact (blk_cell BK 1).trans rfl
    | i + 1, hi => simp at hi
  | j + 2, hj => simp at hj
set_option maxRecDepth 100000 in
set_option maxHeartbeats 4000000 in
theorem frame_walk (w0 : World) (v0 : Value) (out : List Int) (Ar : Option Addr) (cr : Nat) (record : List Int) (last : Bool) (w : World) (hO : Kd.R (Kd.int .u8) 5 w w0.heap.size (fun _ => True) v0 out)
    (hB : Below w0.heap.size w0 w) (hr : Kd.C (Kd.int .u8) w0 Ar record.length record) (hc : record.length ≤ cr) (hl : out.length + record.length ≤ 100000000) :
    Calls Try.prog 73 #[v0, .slice Ar record.length cr, .bool last] w fun e w' => ∃ v1, e = .returned v1 ∧ Kd.R (Kd.int .u8) 5 w' w0.heap.size (fun _ => True) v1 (out ++ frameF record last) ∧ Below w0.heap.size w0 w' := by
  obtain ⟨A0, c0, rfl, hc0, _⟩ := Kd.R_reads hO
  have HO := Aside0.mk hO
  have HB := Aside0.mk hB
  have HR := Aside0.mk hr
  have HC := Aside0.mk hc
  have HC0 := Aside0.mk hc0
  have HL := Aside0.mk hl
  clear hO hB hr hc hc0 hl
  go_enter Try.func73, Try.ntmps73
  have HO1 := Aside0.mk (Kd.R_alloc HO.out (.cells #[.int .u8 ((record.length : Int) % 256), .int .u8 (flagOf last)] 5))
  have HB1 := Aside0.mk (below_alloc HB.out (.cells #[.int .u8 ((record.length : Int) % 256), .int .u8 (flagOf last)] 5))
  have HP := Aside0.mk (C_pair 5 w ((record.length : Int) % 256) (flagOf last))
  have HF : Aside0 (frameB record last = [(record.length : Int) % 256, flagOf last] ++ record) := ⟨rfl⟩
  have HFF : Aside0 (frameF record last = frameB record last ++ [(sumsF 0 0 (frameB record last)).1 % 256, (sumsF 0 0 (frameB record last)).2 % 256]) := ⟨rfl⟩
  clear HO
  obtain ⟨fl, hfl⟩ : ∃ fl, Aside0 (fl = flagOf last) := ⟨_, ⟨rfl⟩⟩
  rw [← hfl.out] at HO1 HB1 HP HF
  have hcut : Aside0 (∀ (W : World) (v : Value), Kd.R (Kd.int .u8) 5 W w0.heap.size (fun _ => True) v (out ++ frameB record last) → ∃ A n c A', v = .slice A n c ∧ n = out.length + (frameB record last).length ∧ n ≤ c ∧ A' = (if c = out.length then A else A.map (·.add out.length)) ∧ Kd.C (Kd.int .u8) W A' (frameB record last).length (frameB record last)) := ⟨by
    intro W v h
    obtain ⟨A, c, rfl, hc, hC⟩ := Kd.R_reads h
    refine ⟨A, _, c, _, rfl, by rw [List.length_append], hc, rfl, ?_⟩
    have := Kd.C_drop (m := out.length) hC (by rw [List.length_append]; omega) hc
    rw [List.drop_left, show (Kd.int .u8).sz = 1 from rfl, Nat.mul_one] at this
    exact this⟩
  have hLB : Aside0 ((frameB record last).length = record.length + 2) := ⟨by unfold frameB; simp⟩
  cases last
  · have hfl0 : fl = 0 := hfl.out
    clear hfl
    subst hfl0
    go_wp2_with (first | ((with_reducible refine gate_builtin (b := .append) (xs := #[.tmp 13, .tmp 18]) rfl ?_); at_builtin; refine Kd.R_append_rows (Kd.int .u8) (w0 := w0) w0.heap.size rfl (.tmp 13) (.tmp 18) 36 5 (.int .u8 0) 1 rfl Try.underlying36 info5 rfl (by decide) (by omega) _ out [(record.length : Int) % 256, 0] (some ⟨w.heap.size, 0, none⟩) 2 2 (fun _ => True) (fun _ => False) rfl rfl HO1.out HP.out (fun x cs h => h) (fun _ h => h.elim) (fun _ _ => trivial) HB1.out (below_size HB1.out) (by have := HL.out; omega) ?_; intro v2 w2 ho hb hg hat; clear hg hat; have HO2 := Aside0.mk ho; have HB2 := Aside0.mk hb; clear ho hb) | ((with_reducible refine gate_builtin (b := .append) (xs := #[.tmp 19, .tmp 20]) rfl ?_); at_builtin; refine Kd.R_append_rows (Kd.int .u8) (w0 := w0) w0.heap.size rfl (.tmp 19) (.tmp 20) 36 5 (.int .u8 0) 1 rfl Try.underlying36 info5 rfl (by decide) (by omega) _ (out ++ [(record.length : Int) % 256, 0]) record Ar record.length cr (fun _ => True) (fun _ => False) rfl rfl HO2.out (Kd.C_below HR.out HB2.out) (fun x cs h => h) (fun _ h => h.elim) (fun _ _ => trivial) HB2.out (below_size HB2.out) (by have := HL.out; simp only [List.length_append, List.length_cons, List.length_nil]; omega) ?_; intro v3 w3 ho hb hg hat; clear hg hat; have HO3 := Aside0.mk ho; have HB3 := Aside0.mk hb; clear ho hb; rw [List.append_assoc, ← HF.out] at HO3; obtain ⟨A3, n3, c3, A3d, rfl, hn3, hnc3, hA3, hC3⟩ := hcut.out _ _ HO3.out; have hne : ¬ c3 = out.length := (by have := hLB.out; omega); rw [if_neg hne] at hA3; subst hA3; subst hn3; have HS3 := Aside0.mk hC3; have HN3 := Aside0.mk hnc3; have HX3 := Aside0.mk hne; clear hC3 hnc3) | (go_at_call 86; refine (sums_walk _ (c3 - out.length) (frameB record false) _ HS3.out (by have := HN3.out; have := hLB.out; omega) (by have := HL.out; have := hLB.out; omega)).mono ?_; rintro e w4 ⟨rfl, hb4⟩; have HO4 := Aside0.mk (Kd.R_alloc (Kd.R_below HO3.out hb4) (.cells #[.int .u8 ((sumsF 0 0 (frameB record false)).1 % 256), .int .u8 ((sumsF 0 0 (frameB record false)).2 % 256)] 124)); have HB4 := Aside0.mk (below_alloc (below_step HB3.out hb4) (.cells #[.int .u8 ((sumsF 0 0 (frameB record false)).1 % 256), .int .u8 ((sumsF 0 0 (frameB record false)).2 % 256)] 124)); have HP4 := Aside0.mk (C_pair 124 w4 ((sumsF 0 0 (frameB record false)).1 % 256) ((sumsF 0 0 (frameB record false)).2 % 256)); clear hb4) | ((with_reducible refine gate_builtin (b := .append) (xs := #[.tmp 26, .tmp 27]) rfl ?_); at_builtin; refine Kd.R_append_rows (Kd.int .u8) (w0 := w0) w0.heap.size rfl (.tmp 26) (.tmp 27) 36 5 (.int .u8 0) 1 rfl Try.underlying36 info5 rfl (by decide) (by omega) _ (out ++ frameB record false) [(sumsF 0 0 (frameB record false)).1 % 256, (sumsF 0 0 (frameB record false)).2 % 256] (some ⟨w4.heap.size, 0, none⟩) 2 2 (fun _ => True) (fun _ => False) rfl rfl HO4.out HP4.out (fun x cs h => h) (fun _ h => h.elim) (fun _ _ => trivial) HB4.out (below_size HB4.out) (by have := HL.out; have := hLB.out; simp only [List.length_append]; omega) ?_; intro v5 w5 ho hb hg hat; clear hg hat; rw [List.append_assoc, ← HFF.out] at ho; have HO5 := Aside0.mk ho; have HB5 := Aside0.mk hb; clear ho hb))
    go_ret
    exact ⟨v5, rfl, HO5.out, HB5.out⟩
  · have hfl0 : fl = 1 := hfl.out
    clear hfl
    subst hfl0
    go_wp2_with (first | ((with_reducible refine gate_builtin (b := .append) (xs := #[.tmp 13, .tmp 18]) rfl ?_); at_builtin; refine Kd.R_append_rows (Kd.int .u8) (w0 := w0) w0.heap.size rfl (.tmp 13) (.tmp 18) 36 5 (.int .u8 0) 1 rfl Try.underlying36 info5 rfl (by decide) (by omega) _ out [(record.length : Int) % 256, 1] (some ⟨w.heap.size, 0, none⟩) 2 2 (fun _ => True) (fun _ => False) rfl rfl HO1.out HP.out (fun x cs h => h) (fun _ h => h.elim) (fun _ _ => trivial) HB1.out (below_size HB1.out) (by have := HL.out; omega) ?_; intro v2 w2 ho hb hg hat; clear hg hat; have HO2 := Aside0.mk ho; have HB2 := Aside0.mk hb; clear ho hb) | ((with_reducible refine gate_builtin (b := .append) (xs := #[.tmp 19, .tmp 20]) rfl ?_); at_builtin; refine Kd.R_append_rows (Kd.int .u8) (w0 := w0) w0.heap.size rfl (.tmp 19) (.tmp 20) 36 5 (.int .u8 0) 1 rfl Try.underlying36 info5 rfl (by decide) (by omega) _ (out ++ [(record.length : Int) % 256, 1]) record Ar record.length cr (fun _ => True) (fun _ => False) rfl rfl HO2.out (Kd.C_below HR.out HB2.out) (fun x cs h => h) (fun _ h => h.elim) (fun _ _ => trivial) HB2.out (below_size HB2.out) (by have := HL.out; simp only [List.length_append, List.length_cons, List.length_nil]; omega) ?_; intro v3 w3 ho hb hg hat; clear hg hat; have HO3 := Aside0.mk ho; have HB3 := Aside0.mk hb; clear ho hb; rw [List.append_assoc, ← HF.out] at HO3; obtain ⟨A3, n3, c3, A3d, rfl, hn3, hnc3, hA3, hC3⟩ := hcut.out _ _ HO3.out; have hne : ¬ c3 = out.length := (by have := hLB.out; omega); rw [if_neg hne] at hA3; subst hA3; subst hn3; have HS3 := Aside0.mk hC3; have HN3 := Aside0.mk hnc3; have HX3 := Aside0.mk hne; clear hC3 hnc3) | (go_at_call 86; refine (sums_walk _ (c3 - out.length) (frameB record true) _ HS3.out (by have := HN3.out; have := hLB.out; omega) (by have := HL.out; have := hLB.out; omega)).mono ?_; rintro e w4 ⟨rfl, hb4⟩; have HO4 := Aside0.mk (Kd.R_alloc (Kd.R_below HO3.out hb4) (.cells #[.int .u8 ((sumsF 0 0 (frameB record true)).1 % 256), .int .u8 ((sumsF 0 0 (frameB record true)).2 % 256)] 124)); have HB4 := Aside0.mk (below_alloc (below_step HB3.out hb4) (.cells #[.int .u8 ((sumsF 0 0 (frameB record true)).1 % 256), .int .u8 ((sumsF 0 0 (frameB record true)).2 % 256)] 124)); have HP4 := Aside0.mk (C_pair 124 w4 ((sumsF 0 0 (frameB record true)).1 % 256) ((sumsF 0 0 (frameB record true)).2 % 256)); clear hb4) | ((with_reducible refine gate_builtin (b := .append) (xs := #[.tmp 26, .tmp 27]) rfl ?_); at_builtin; refine Kd.R_append_rows (Kd.int .u8) (w0 := w0) w0.heap.size rfl (.tmp 26) (.tmp 27) 36 5 (.int .u8 0) 1 rfl Try.underlying36 info5 rfl (by decide) (by omega) _ (out ++ frameB record true) [(sumsF 0 0 (frameB record true)).1 % 256, (sumsF 0 0 (frameB record true)).2 % 256] (some ⟨w4.heap.size, 0, none⟩) 2 2 (fun _ => True) (fun _ => False) rfl rfl HO4.out HP4.out (fun x cs h => h) (fun _ h => h.elim) (fun _ _ => trivial) HB4.out (below_size HB4.out) (by have := HL.out; have := hLB.out; simp only [List.length_append]; omega) ?_; intro v5 w5 ho hb hg hat; clear hg hat; rw [List.append_assoc, ← HFF.out] at ho; have HO5 := Aside0.mk ho; have HB5 := Aside0.mk hb; clear ho hb))
    go_ret
    exact ⟨v5, rfl, HO5.out, HB5.out⟩
end Go.Proofs.Ytnjidfgjldkkcaa.Q
