/- trust.walk, walked: level by level. -/
import Derived.Test.YtjceapbbapofmaaQGr
import Derived.Test.YtjceapbbapofmaaPlRe
namespace Go.Proofs.Ytjceapbbapofmaa.Q
open Go.RowKit Go.Maps Go.Sort Go.Proofs.Ytjceapbbapofmaa.PTrustPaths Go.Proofs.Ytjceapbbapofmaa.PgTrust Go.Proofs.Ytjceapbbapofmaa.Trust Go.Proofs.YtjceapbbapofmaaW.PrintWords Go.Proofs.YtjceapbbapofmaaW.PrintLast Go.Proofs.YtjceapbbapofmaaW.PrintMore
set_option linter.unusedVariables false
set_option linter.unusedSimpArgs false
/-- The map tells of each key that was come to the one ahead of it. -/
structure FAt (w : World) (b n : Nat) (D : DataW Value) (F : List (Int × Int)) : Prop where
  map : w.ownsMap Try.prog 3 (plainElem Try.prog 3) b n D
  isIn : ∀ k, Maps.has D (keyL k) = decide (k ∈ keysF F)
  isAt : ∀ q ∈ F, ∀ z, D.atKey (keyL q.1) z = .lit (.int .i64 q.2)
theorem FAt.kept {w w' : World} {b n : Nat} {D : DataW Value} {F : List (Int × Int)} {row : Option Nat} (h : FAt w b n D F) (hg : w.grownBy w' row) (hr : some b ≠ row) : FAt w' b n D F := ⟨h.map.kept hg hr, h.isIn, h.isAt⟩
theorem fat_put {w w' : World} {b n : Nat} {D : DataW Value} {F : List (Int × Int)} {t k : Int} (h : FAt w b n D F) (ht : t ∉ keysF F) (hm : w'.ownsMap Try.prog 3 (plainElem Try.prog 3) b (n + 1) (D.put (keyL t) (.lit (.int .i64 k)))) : FAt w' b (n + 1) (D.put (keyL t) (.lit (.int .i64 k))) (F ++ [(t, k)]) := by
  refine ⟨hm, fun j => ?_, fun q hq z => ?_⟩
  · have e : keysF (F ++ [(t, k)]) = keysF F ++ [t] := by simp [keysF]
    rw [e]
    by_cases hj : j = t
    · subst hj
      rw [has_put_same h.map.isMap (by trivial)]
      simp
    · rw [has_put_other (fun e => hj (by injection e)), h.isIn j]
      simp [hj]
  · rcases List.mem_append.1 hq with hq | hq
    · have hne : q.1 ≠ t := fun e => ht (e ▸ List.mem_map.2 ⟨q, hq, rfl⟩)
      rw [atKey_put_other (fun e => hne (by injection e))]
      exact h.isAt q hq z
    · simp only [List.mem_singleton] at hq
      subst hq
      exact atKey_put_same h.map.isMap (by trivial) _ _
theorem fat_one {w w' : World} {root : Int} (hm : w'.ownsMap Try.prog 3 (plainElem Try.prog 3) w.heap.size 1 ((DataW.map [] : DataW Value).put (keyL root) (.lit (.int .i64 root)))) : FAt w' w.heap.size 1 ((DataW.map [] : DataW Value).put (keyL root) (.lit (.int .i64 root))) [(root, root)] :=
  fat_put (w := w.alloc (.map #[] 0)) (n := 0) (F := []) ⟨World.ownsMap_made _ _ _ _, fun k => rfl, fun q hq => by cases hq⟩ (by simp [keysF]) hm
theorem zero3 (w : World) : (zeroValue 3).run Try.prog w = .ok (.int .i64 0) w := by kernel_rfl
theorem mem_rfS {l : List S52} {k t : Int} : t ∈ rfS l k ↔ (k, t) ∈ edges l := by
  unfold rfS sortZ rfU
  rw [(List.mergeSort_perm _ _).mem_iff, List.mem_map]
  constructor
  · rintro ⟨e, he, rfl⟩
    obtain ⟨h1, h2⟩ := List.mem_filter.1 he
    have : e.1 = k := of_decide_eq_true h2
    subst this
    exact h1
  · intro h
    exact ⟨(k, t), List.mem_filter.2 ⟨h, by simp⟩, rfl⟩
theorem edges_len (l : List S52) : (edges l).length ≤ l.length := by
  unfold edges
  rw [List.length_map]
  exact List.length_filter_le _ _
theorem edges_wf {l : List S52} (hw : ∀ c ∈ l, (Lit.int .i64 c.f0).wf = true ∧ (Lit.int .i64 c.f1).wf = true) {e : Int × Int} (he : e ∈ edges l) : (Lit.int .i64 e.1).wf = true ∧ (Lit.int .i64 e.2).wf = true := by
  unfold edges at he
  obtain ⟨c, hc, rfl⟩ := List.mem_map.1 he
  exact hw c (List.mem_filter.1 hc).1
theorem rch_wf {l : List S52} (hw : ∀ c ∈ l, (Lit.int .i64 c.f0).wf = true ∧ (Lit.int .i64 c.f1).wf = true) {root k : Int} (hr : (Lit.int .i64 root).wf = true) (h : Rch (edges l) root k) : (Lit.int .i64 k).wf = true := by
  cases h with
  | root => exact hr
  | step _ he => exact (edges_wf hw he).2
theorem own_int {w : World} {B n c : Nat} {A : Option Addr} {xs : List Int} (h : w.ownsRow B 3 1 (.slice A n c) n (intsV xs)) {i : Nat} (hi : i < xs.length) : ∃ ad, A = some ad ∧ w.cell? (ad.add i) = some (.int .i64 xs[i]) := by
  obtain ⟨hl, ⟨_, h0⟩ | ⟨g, cap, cur, hv, _, hb, _, _, _, ht⟩⟩ := h
  · rw [List.length_map] at hl; omega
  cases hv
  refine ⟨_, rfl, ?_⟩
  have e : (⟨g, 0, none⟩ : Addr).add i = ⟨g, i, none⟩ := by
    unfold Addr.add
    split
    · rename_i h0; subst h0; rfl
    · simp
  rw [List.length_map] at hl
  rw [e, blk_cell hb i, ← Array.getElem?_toList]
  have hj : i < n * 1 := by omega
  have hx : (intsV xs)[i]? = some (.int .i64 xs[i]) := by rw [List.getElem?_map, List.getElem?_eq_getElem hi]; rfl
  rw [← ht, List.getElem?_take_of_lt hj] at hx
  exact hx
theorem own_n {w : World} {B n : Nat} {v : Value} {xs : List Int} (h : w.ownsRow B 3 1 v n (intsV xs)) : n = xs.length := by have := h.1; rw [List.length_map] at this; omega
theorem own_new {w : World} {B : Nat} {x : Int} (h : B ≤ w.heap.size) : (w.alloc (.cells #[.int .i64 x] 3)).ownsRow B 3 1 (.slice (some ⟨w.heap.size, 0, none⟩) 1 1) [x].length (intsV [x]) :=
  ⟨rfl, .inr ⟨w.heap.size, 1, #[.int .i64 x], rfl, h, blk_new w _, Nat.le_refl _, by decide, rfl, rfl⟩⟩
theorem own_max {w : World} {B e s n : Nat} {v : Value} {xs : List Value} (h : w.ownsRow B e s v n xs) : n ≤ 9223372036854775807 := by
  obtain ⟨_, ⟨_, rfl⟩ | ⟨g, cap, cur, _, _, _, hc, hm, _⟩⟩ := h
  · omega
  · unfold maxLen at hm; omega
theorem own_no_map {w : World} {B e s n : Nat} {v : Value} {xs : List Value} (h : w.ownsRow B e s v n xs) {P : Program} {k : TypeId} {R : Value → Option (DataW Value × List MemPlace)} {b m : Nat} {D : DataW Value} (hm : w.ownsMap P k R b m D) : v.ownBlock = none ∨ v.ownBlock ≠ some b := by
  cases hv : v.ownBlock with
  | none => exact .inl rfl
  | some q => exact .inr fun e => own_map h hm (by rw [hv]; exact e.symm)
/-- What trust.walk hands back. -/
def WalkPost (w : World) (l : List S52) (root : Int) (e : Ending) (w' : World) : Prop := ∃ (b n : Nat) (D : DataW Value) (R : List (Int × Int)), e = .returned (.map (some b)) ∧ FAt w' b n D R ∧ Fin (rfS l) R 63 [(root, root)] [root] ∧ Lev (edges l) (rfS l) root R [] ∧ n ≤ 61 ∧ Below w.heap.size w w'
set_option maxRecDepth 100000 in
set_option maxHeartbeats 8000000 in
theorem walk_walk (root : Int) (hroot : (Lit.int .i64 root).wf = true) (l : List S52) (hl : l.length ≤ 60) (hw : ∀ c ∈ l, (Lit.int .i64 c.f0).wf = true ∧ (Lit.int .i64 c.f1).wf = true) (A : Option Addr) (c : Nat) (w : World) (hC : Kd.C k52 w A l.length l) :
    Calls Try.prog 50 #[.int .i64 root, .slice A l.length c] w (WalkPost w l root) := by
  obtain ⟨i3, hi3, hz0, hz1, hz2⟩ := info_parts info3
  have hmm := @run_makeMap Try.prog
  have HL := Aside0.mk hl
  have HW := Aside0.mk hw
  have HRt := Aside0.mk hroot
  have HGr := Aside0.mk (graph_walk l hl hw A c w hC)
  obtain ⟨R, hR, hLR⟩ := fin_lev (E := edges l) (rf := rfS l) (root := root) (fun k t ht => mem_rfS.1 ht) 63 [(root, root)] [root] (lev_start _ _ _) (by have := edges_len l; simp [keysF]; omega) (.inr (by simp [keysF]))
  have HFin := Aside0.mk hR
  have HFin0 := HFin
  have HLev := Aside0.mk hLR
  have hub : Aside0 (∀ F : List (Int × Int), (keysF F).Nodup → (∀ k ∈ keysF F, Rch (edges l) root k) → F.length ≤ 61) := ⟨fun F hn hs => by
    have h1 := nodup_le hn (fun k hk => rch_sub (hs k hk))
    have h2 := edges_len l
    simp only [List.length_cons, List.length_map, keysF] at h1
    omega⟩
  clear hC hl hw hroot hR hLR
  go_enter Try.func50, Try.ntmps50
  go_wp2_with (go_at_call 62; refine HGr.out.mono ?_; rintro e w1 ⟨bg, Dg, vf, rfl, hGA, hB1⟩; have HGA := Aside0.mk hGA; have HB1 := Aside0.mk hB1; obtain ⟨w2, hrun, ho2, hg2⟩ := (World.ownsMap_made (H := Value) w1 Try.prog 3 (plainElem Try.prog 3)).update (val := .int .i64 root) K3 Try.underlying80 (by unfold maxLen; omega) (keyOf_int_mk Try.underlying3 HRt.out) (plainElem_int Try.underlying3 HRt.out); have HF2 := Aside0.mk (fat_one ho2); have HB2 : Aside0 (Below w1.heap.size w1 w2) := ⟨grown_below (below_alloc (Below.refl _ _) _) hg2 (fun k hk => by cases hk; exact Nat.le_refl _)⟩; have hb2 : Aside0 (w1.heap.size < w2.heap.size) := ⟨ho2.lt⟩; clear hGA hB1 ho2 hg2)
  clear hrun
  go_loopg [7] 63 (fun n v7 wr => ∃ (F : List (Int × Int)) (lv : List Int) (D : DataW Value), Aside0 (Fin (rfS l) R n F lv) ∧ Aside0 (Lev (edges l) (rfS l) root F lv) ∧ Aside0 (FAt wr w1.heap.size F.length D F) ∧ Aside0 (wr.ownsRow (w1.heap.size + 1) 3 1 v7 lv.length (intsV lv)) ∧ Aside0 (Below w1.heap.size w1 wr))
  case atStart => exact ⟨[(root, root)], [root], _, HFin, ⟨lev_start _ _ _⟩, ⟨HF2.out.kept (World.grownBy_alloc _ _ none) (by simp)⟩, ⟨own_new (by have := hb2.out; omega)⟩, ⟨below_alloc HB2.out _⟩⟩
  case round =>
    clear HF2 HB2 hb2 HFin
    obtain ⟨F, lv, D, hFin, hLev, HF, HO, HBr⟩ := hrel
    obtain ⟨A7, c7, rfl⟩ := own_slice HO.out
    by_cases hlv : lv = []
    · subst hlv
      have hR : Aside0 (F = R) := ⟨by
        have h := hFin.out
        cases gk with
        | zero => exact h.2
        | succ n => simpa [Trust.Fin] using h⟩
      go_wp2
      go_ret
      refine ⟨w1.heap.size, F.length, D, R, rfl, by rw [← hR.out]; exact HF.out, HFin0.out, HLev.out, ?_, ?_⟩
      · exact hub.out F (by have := hLev.out.nodup; exact this) hLev.out.sound
      · exact ⟨HBr.out.os.trans HB1.out.os, HBr.out.tape.trans HB1.out.tape, HBr.out.output.trans HB1.out.output, Nat.le_trans HB1.out.size HBr.out.size, fun k hk => (HBr.out.block k (Nat.lt_of_lt_of_le hk HB1.out.size)).trans (HB1.out.block k hk)⟩
    cases gk with
    | zero => exact absurd hFin.out.1 hlv
    | succ gn =>
      have hN : Aside0 (Fin (rfS l) R gn (visitL (rfS l) F lv).1 (visitL (rfS l) F lv).2) := ⟨by have h := hFin.out; simpa [Trust.Fin, hlv] using h⟩
      have hpos : 0 < lv.length := List.length_pos_iff.2 hlv
      have hmx := own_max HO.out
      have hmxA := Aside0.mk hmx
      have dpos : decide ((0 : Int) < (lv.length : Int)) = true := decide_eq_true (by omega)
      have HlvA := Aside0.mk hlv
      clear hlv hmx hFin
      obtain ⟨wo, hwo⟩ : ∃ x, x = wr := ⟨wr, rfl⟩
      subst hwo
      go_wp2
      go_loopw [8, 28] (fun v8 v28 wr => ∃ (i : Nat) (s : List (Int × Int) × List Int) (D : DataW Value), v28 = .int .i64 i ∧ Aside0 (i ≤ lv.length) ∧ Aside0 (s = (lv.take i).foldl (visitK (rfS l)) (F, [])) ∧ Aside0 (Vis F s.1 s.2 (Rch (edges l) root)) ∧ Aside0 (FAt wr w1.heap.size s.1.length D s.1) ∧ Aside0 (wr.ownsRow (w1.heap.size + 1) 3 1 (.slice A7 lv.length c7) lv.length (intsV lv)) ∧ Aside0 (wr.ownsRow (w1.heap.size + 1) 3 1 v8 s.2.length (intsV s.2)) ∧ Aside0 ((Value.slice A7 lv.length c7).ownBlock = none ∨ (Value.slice A7 lv.length c7).ownBlock ≠ v8.ownBlock) ∧ Aside0 (Below w1.heap.size w1 wr)) (fun _ v28 _ => lv.length - (intOf v28).toNat)
      case atStart => exact ⟨0, (F, []), D, rfl, ⟨Nat.zero_le _⟩, ⟨rfl⟩, ⟨⟨by simp, hLev.out.nodup, fun t ht => by cases ht⟩⟩, HF, HO, ⟨World.ownsRow_nil _ _ _ _⟩, ⟨by cases A7 <;> simp [Value.ownBlock]⟩, HBr⟩
      case round =>
        clear HF HO HBr
        obtain ⟨i, s0, D0, rfl, hi, hs0, hV0, HF0, HO7, HO8, hap, HB0⟩ := hrel
        have hil := hi.out
        by_cases hlt : i < lv.length
        · have p1 : (0 : Int) ≤ (i : Int) := Int.natCast_nonneg i
          have q1 : (i : Int) < (lv.length : Int) := Int.ofNat_lt.2 hlt
          have hi1 : IntKind.i64.wrap ((i : Int) + 1) = (i : Int) + 1 := by have := hmxA.out; unfold IntKind.wrap; simp [IntKind.signed, IntKind.bits]; omega
          obtain ⟨ad7, rfl, hx7⟩ := own_int HO7.out hlt
          obtain ⟨k, hk⟩ : ∃ k, k = lv[i] := ⟨_, rfl⟩
          rw [← hk] at hx7
          have hkA := Aside0.mk hk
          have hkR : Aside0 (Rch (edges l) root k) := ⟨hLev.out.sound k (hLev.out.sub k (hk ▸ List.getElem_mem hlt))⟩
          have hkw : Aside0 ((Lit.int .i64 k).wf = true) := ⟨rch_wf HW.out HRt.out hkR.out⟩
          clear hk
          have HGr2 := Aside0.mk (HGA.out.kept HB0.out)
          obtain ⟨vv, ps, hrunG, hvv⟩ := HGr2.out.map.lookup K3 Try.underlying95 (zero24 _) (z := nilS) rfl (keyOf_int_mk Try.underlying3 hkw.out)
          rw [HGr2.out.isAt k] at hvv
          obtain rfl := heldR_inv hvv
          clear hvv
          obtain ⟨Ak, ck, hvk⟩ := own_slice (HGr2.out.own k)
          rw [hvk] at hrunG
          have HK0 : Aside0 (w1.ownsRow w.heap.size 3 1 (.slice Ak (rfS l k).length ck) (rfS l k).length (intsV (rfS l k))) := ⟨by have h := HGA.out.own k; rw [hvk] at h; exact h⟩
          have hklen : Aside0 ((rfS l k).length ≤ 60) := ⟨by have := rfU_len l k; have := HL.out; rw [show (rfS l k).length = (rfU l k).length from sortZ_len _]; omega⟩
          clear hvk
          obtain ⟨wm, hwm⟩ : ∃ x, x = wr := ⟨wr, rfl⟩
          subst hwm
          go_wp2
          clear hrunG hx7
          go_loopw [8, 36] (fun v8 v36 wr => ∃ (j : Nat) (s : List (Int × Int) × List Int) (D : DataW Value), v36 = .int .i64 j ∧ Aside0 (j ≤ (rfS l k).length) ∧ Aside0 (s = ((rfS l k).take j).foldl (visit k) s0) ∧ Aside0 (Vis F s.1 s.2 (Rch (edges l) root)) ∧ Aside0 (FAt wr w1.heap.size s.1.length D s.1) ∧ Aside0 (wr.ownsRow (w1.heap.size + 1) 3 1 (.slice (some ad7) lv.length c7) lv.length (intsV lv)) ∧ Aside0 (wr.ownsRow (w1.heap.size + 1) 3 1 v8 s.2.length (intsV s.2)) ∧ Aside0 ((Value.slice (some ad7) lv.length c7).ownBlock = none ∨ (Value.slice (some ad7) lv.length c7).ownBlock ≠ v8.ownBlock) ∧ Aside0 (Below w1.heap.size w1 wr)) (fun _ v36 _ => (rfS l k).length - (intOf v36).toNat)
          case atStart => exact ⟨0, s0, D0, rfl, ⟨Nat.zero_le _⟩, ⟨rfl⟩, hV0, HF0, HO7, HO8, hap, HB0⟩
          case round =>
            clear HF0 HO7 HO8 hap HB0 HGr2
            obtain ⟨j, s, D1, rfl, hj, hs, hV, HF, HO7, HO8, hap, HB⟩ := hrel
            have hjl := hj.out
            by_cases hjt : j < (rfS l k).length
            · have p2 : (0 : Int) ≤ (j : Int) := Int.natCast_nonneg j
              have q2 : (j : Int) < ((rfS l k).length : Int) := Int.ofNat_lt.2 hjt
              have hj1 : IntKind.i64.wrap ((j : Int) + 1) = (j : Int) + 1 := by have := hklen.out; unfold IntKind.wrap; simp [IntKind.signed, IntKind.bits]; omega
              obtain ⟨adk, rfl, hxk0⟩ := own_int HK0.out hjt
              have hxk := (HB.out.cell (World.block_lt_of_cell? w1 _ hxk0)).trans hxk0
              clear hxk0
              obtain ⟨t, ht⟩ : ∃ t, t = (rfS l k)[j] := ⟨_, rfl⟩
              rw [← ht] at hxk
              have htA := Aside0.mk ht
              have hte : Aside0 ((k, t) ∈ edges l) := ⟨mem_rfS.1 (ht ▸ List.getElem_mem hjt)⟩
              have htw : Aside0 ((Lit.int .i64 t).wf = true) := ⟨(edges_wf HW.out hte.out).2⟩
              clear ht
              have hstep : Aside0 (((rfS l k).take (j + 1)).foldl (visit k) s0 = visit k s t) := ⟨by rw [List.take_succ_eq_append_getElem hjt, List.foldl_append, ← hs.out, ← htA.out]; rfl⟩
              have hV2 := Aside0.mk (vis_step (k := k) hV.out (.step hkR.out hte.out)).1
              by_cases hin : t ∈ keysF s.1
              · have hhas : Maps.has D1 (keyL t) = true := by rw [HF.out.isIn t]; exact decide_eq_true hin
                have hvis : Aside0 (visit k s t = s) := ⟨by unfold visit; rw [if_pos hin]⟩
                have hH := Aside0.mk hhas
                clear hin hhas
                go_wp2_with (at_lookup; refine wpList_lookup_own_ok_int _ rfl _ _ 80 rfl 3 3 .i64 K3 Try.underlying80 Try.underlying3 (zero3 _) w1.heap.size s.1.length D1 rfl HF.out.map _ _ rfl (keyOf_int_mk Try.underlying3 htw.out) ?_; intro cc hat hwc; rw [hH.out]; clear hat hwc)
                go_roundw
                case rel => exact ⟨j + 1, s, D1, by simp, ⟨hjt⟩, ⟨by rw [hstep.out, hvis.out]⟩, hV, HF, HO7, HO8, hap, HB⟩
                case measure => simp [intOf]; omega
              · have hhas : Maps.has D1 (keyL t) = false := by rw [HF.out.isIn t]; exact decide_eq_false hin
                have hvis : Aside0 (visit k s t = (s.1 ++ [(t, k)], s.2 ++ [t])) := ⟨by unfold visit; rw [if_neg hin]⟩
                have hH := Aside0.mk hhas
                have hinA := Aside0.mk hin
                have hF61 : Aside0 (s.1.length ≤ 61 ∧ s.2.length ≤ 61) := ⟨by
                  have h0 : ∀ q ∈ keysF s.1, Rch (edges l) root q := fun q hq => by
                    rw [hV.out.keys] at hq
                    rcases List.mem_append.1 hq with hq | hq
                    · exact hLev.out.sound q hq
                    · exact hV.out.ok q hq
                  have h1 := hub.out s.1 hV.out.nodup h0
                  have h2 := congrArg List.length hV.out.keys
                  rw [List.length_append] at h2
                  have h3 : (keysF s.1).length = s.1.length := List.length_map ..
                  exact ⟨h1, by omega⟩⟩
                clear hin hhas
                go_wp2_with (first | (at_lookup; refine wpList_lookup_own_ok_int _ rfl _ _ 80 rfl 3 3 .i64 K3 Try.underlying80 Try.underlying3 (zero3 _) w1.heap.size s.1.length D1 rfl HF.out.map _ _ rfl (keyOf_int_mk Try.underlying3 htw.out) ?_; intro cc hat hwc; rw [hH.out]; clear hat hwc) | (at_mapUpdate; refine wpList_mapUpdate_own _ rfl _ _ _ 80 rfl 3 3 K3 Try.underlying80 (plainElem Try.prog 3) w1.heap.size s.1.length D1 rfl HF.out.map (by have := hF61.out; unfold maxLen; omega) _ _ _ rfl rfl (keyOf_int_mk Try.underlying3 htw.out) _ [] (plainElem_int Try.underlying3 hkw.out) ?_; intro w5 ho5 hg5; have HF5 := Aside0.mk (fat_put HF.out hinA.out ho5); have HO75 := Aside0.mk (HO7.out.kept hg5 (own_no_map HO7.out HF.out.map)); have HO85 := Aside0.mk (HO8.out.kept hg5 (own_no_map HO8.out HF.out.map)); have HB5 := Aside0.mk (grown_below HB.out hg5 (fun k hk => by cases hk; exact Nat.le_refl _)); clear ho5 hg5) | (at_builtin; refine wpList_append_lies _ rfl (.tmp 51) (.tmp 53) 24 rfl (w1.heap.size + 1) 3 i3 (.int .i64 0) 1 8 Try.underlying24 hi3 hz0 hz1 hz2 rfl (by decide) _ _ _ rfl (HO85.out.alloc _) ⟨w5.heap.size, 0, none⟩ 1 1 [.int .i64 t] rfl rfl (news_blk (cs := [.int .i64 t]) (blk_new w5 _)) (one_int t) (by decide) (by have := hF61.out; unfold maxLen; omega) (by have := hF61.out; omega) (by have := HF5.out.map.lt; simp; omega) (w5.heap.size + 1) (by simp) ?_; intro g8 c8 w7 ho7 hg7 hat7 _; have HO87 := Aside0.mk ho7; have HG7 := Aside0.mk ((World.grownBy_alloc w5 _ _).trans hg7); have hat7A := Aside0.mk hat7; clear ho7 hg7 hat7))
                go_roundw
                case rel => exact ⟨j + 1, visit k s t, _, by simp, ⟨hjt⟩, ⟨hstep.out.symm⟩, hV2, ⟨by rw [hvis.out]; simpa using HF5.out.kept HG7.out (own_map HO85.out HF5.out.map)⟩, ⟨HO75.out.kept HG7.out hap.out⟩, ⟨by rw [hvis.out]; simpa [intsV] using HO87.out⟩, ⟨by
                  rcases hat7A.out with h | h
                  · rw [show (Value.slice (some ⟨g8, 0, none⟩) (s.2.length + 1) c8).ownBlock = some g8 from rfl, ← h]; exact hap.out
                  · cases hq : (Value.slice (some ad7) lv.length c7).ownBlock with
                    | none => exact .inl rfl
                    | some q =>
                      refine .inr fun e => ?_
                      have h1 := (HO75.out.lt q hq).2
                      injection e with e
                      simp only at e
                      omega⟩, ⟨grown_below HB5.out HG7.out (fun k hk => by have := (HO85.out.lt k hk).1; omega)⟩⟩
                case measure => simp [intOf]; omega
            · obtain rfl : j = (rfS l k).length := by omega
              have hsE : Aside0 (s = (lv.take (i + 1)).foldl (visitK (rfS l)) (F, [])) := ⟨by
                rw [List.take_succ_eq_append_getElem hlt, List.foldl_append, ← hs0.out, ← hkA.out]
                have h := hs.out
                rw [List.take_length] at h
                exact h⟩
              go_wp2
              go_roundw
              case rel => exact ⟨i + 1, s, D1, by simp, ⟨hlt⟩, hsE, hV, HF, HO7, HO8, hap, HB⟩
              case measure => simp [intOf]; omega
        · obtain rfl : i = lv.length := by omega
          have hsE : Aside0 (s0 = visitL (rfS l) F lv) := ⟨by have h := hs0.out; rw [List.take_length] at h; exact h⟩
          go_wp2
          go_roundg gn
          case measure => omega
          case rel => exact ⟨s0.1, s0.2, D0, ⟨by rw [hsE.out]; exact hN.out⟩, ⟨by rw [hsE.out]; exact (lev_step (fun k t ht => mem_rfS.1 ht) hLev.out).1⟩, HF0, HO8, HB0⟩
end Go.Proofs.Ytjceapbbapofmaa.Q
