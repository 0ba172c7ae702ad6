/- trust.graph, walked: of each key those that it vouches for, ascending. -/
import Derived.Test.YtjceapbbapofmaaQIt
import Derived.Test.YtjceapbbapofmaaPgTrust
namespace Go.Proofs.Ytjceapbbapofmaa.Q
open Go.RowKit Go.Maps Go.Sort Go.Proofs.Ytjceapbbapofmaa.PTrustPaths Go.Proofs.Ytjceapbbapofmaa.PgTrust Go.Proofs.YtjceapbbapofmaaW.PrintWords Go.Proofs.YtjceapbbapofmaaW.PrintLast Go.Proofs.YtjceapbbapofmaaW.PrintMore
set_option linter.unusedVariables false
set_option linter.unusedSimpArgs false
noncomputable def goodC (c : S52) : Int := goodZ c.f0 c.f1 c.f2.f0 c.f2.f1
/-- The good certs' keys. -/
noncomputable def edges (l : List S52) : List (Int × Int) := (l.filter fun c => decide (goodC c = 0)).map fun c => (c.f0, c.f1)
noncomputable def rfU (l : List S52) (k : Int) : List Int := ((edges l).filter fun e => decide (e.1 = k)).map (·.2)
noncomputable def rfS (l : List S52) (k : Int) : List Int := sortZ (rfU l k)
theorem rfU_len (l : List S52) (k : Int) : (rfU l k).length ≤ l.length := by
  unfold rfU edges
  rw [List.length_map]
  refine Nat.le_trans (List.length_filter_le _ _) ?_
  rw [List.length_map]
  exact List.length_filter_le _ _
theorem edges_snoc (l : List S52) (c : S52) : edges (l ++ [c]) = if goodC c = 0 then edges l ++ [(c.f0, c.f1)] else edges l := by
  unfold edges
  rw [List.filter_append, List.map_append]
  by_cases h : goodC c = 0 <;> simp [h]
theorem take_snoc {l : List S52} {i : Nat} (h : i < l.length) {c : S52} (hc : c = l[i]) : l.take (i + 1) = l.take i ++ [c] := by rw [List.take_succ_eq_append_getElem h, hc]
theorem rfU_good {l : List S52} {i : Nat} (h : i < l.length) {c : S52} (hc : c = l[i]) (hg : goodC c = 0) : rfU (l.take (i + 1)) = fun j => if j = c.f0 then rfU (l.take i) c.f0 ++ [c.f1] else rfU (l.take i) j := by
  funext j
  unfold rfU
  rw [take_snoc h hc, edges_snoc, if_pos hg, List.filter_append, List.map_append]
  by_cases hj : j = c.f0
  · subst hj; simp
  · rw [if_neg hj]
    have : ¬ c.f0 = j := fun e => hj e.symm
    simp [this]
theorem rfU_bad {l : List S52} {i : Nat} (h : i < l.length) {c : S52} (hc : c = l[i]) (hg : ¬ goodC c = 0) : rfU (l.take (i + 1)) = rfU (l.take i) := by
  funext j
  unfold rfU
  rw [take_snoc h hc, edges_snoc, if_neg hg]
theorem info3 : (Try.prog.info? 3).map (fun i => (i.zero, i.size, i.bytes)) = some (some (.int .i64 0), 1, 8) := by kernel_rfl
theorem zero24 (w : World) : (zeroValue 24).run Try.prog w = .ok nilS w := by kernel_rfl
theorem rd52 {l : List S52} {i : Nat} (h : i < l.length) : rd_T52 l (i : Int) = l[i] := by
  unfold rd_T52
  rw [Int.toNat_natCast, List.getD_eq_getElem?_getD, List.getElem?_eq_getElem h]
  rfl
theorem news_blk {w : World} {g : Nat} {t : TypeId} {cs : List Value} (h : w.heap[g]? = some (.cells cs.toArray t (0, 0))) : ∀ (j : Nat) u, cs[j]? = some u → w.cell? ((⟨g, 0, none⟩ : Addr).add j) = some u := fun j u hu => by
  have e : (⟨g, 0, none⟩ : Addr).add j = ⟨g, j, none⟩ := by
    unfold Addr.add
    split
    · rename_i h0; subst h0; rfl
    · simp
  rw [e, blk_cell h j]
  simpa using hu
theorem one_int (x : Int) (u : Value) (h : u ∈ [Value.int .i64 x]) : u.oneCell' = true := by
  simp only [List.mem_singleton] at h
  subst h
  rfl
theorem gat_nil {w : World} {b base n : Nat} {D : DataW Value} {vf : Int → Value} {rf : Int → List Int} (h : GAt w b base n D vf rf) (k : Int) (hk : Maps.has D (keyL k) = false) : rf k = [] := by
  have h1 := h.isAt k
  rw [atKey_of_not_has hk] at h1
  injection h1 with h1
  have h2 := (h.own k).2
  rw [← h1] at h2
  rcases h2 with ⟨_, h2⟩ | ⟨g, cap, cur, hv, _⟩
  · exact List.eq_nil_of_length_eq_zero h2
  · cases hv
/-- What trust.graph hands back. -/
def GraphPost (w : World) (l : List S52) (e : Ending) (w' : World) : Prop := ∃ (b : Nat) (D : DataW Value) (vf : Int → Value), e = .returned (.map (some b)) ∧ GAt w' b w.heap.size 60 D vf (rfS l) ∧ Below w.heap.size w w'
set_option maxRecDepth 100000 in
set_option maxHeartbeats 4000000 in
theorem graph_walk (l : List S52) (hl : l.length ≤ 60) (hw : ∀ c ∈ l, (Lit.int .i64 c.f0).wf = true ∧ (Lit.int .i64 c.f1).wf = true) (A : Option Addr) (c : Nat) (w : World) (hC : Kd.C k52 w A l.length l) :
    Calls Try.prog 62 #[.slice A l.length c] w (GraphPost w l) := by
  obtain ⟨i3, hi3, hz0, hz1, hz2⟩ := info_parts info3
  have hmm := @run_makeMap Try.prog
  have HC := Aside0.mk hC
  have HL := Aside0.mk hl
  have HW := Aside0.mk hw
  clear hC hl hw
  have HB := Aside0.mk (below_alloc (Below.refl w.heap.size w) (.map #[] 0))
  have HG : Aside0 (GAt (w.alloc (.map #[] 0)) w.heap.size w.heap.size 0 (.map []) (fun _ => nilS) (rfU (l.take 0))) := ⟨⟨World.ownsMap_made _ _ _ _, fun k => rfl, fun k => World.ownsRow_nil _ _ _ _, fun _ _ _ => .inl rfl⟩⟩
  go_enter Try.func62, Try.ntmps62
  go_wp2
  go_loopw [11] (fun v11 wr => ∃ (i : Nat) (D : DataW Value) (vf : Int → Value), v11 = .int .i64 i ∧ Aside0 (i ≤ l.length) ∧ Aside0 (GAt wr w.heap.size w.heap.size i D vf (rfU (l.take i))) ∧ Aside0 (Below w.heap.size w wr)) (fun v11 _ => l.length - (intOf v11).toNat)
  case atStart => exact ⟨0, _, _, rfl, ⟨Nat.zero_le _⟩, HG, HB⟩
  case round =>
    clear HG HB
    obtain ⟨i, D, vf, rfl, hi, hGA, HBr⟩ := hrel
    have hil := hi.out
    have hil60 : Aside0 (i ≤ 60) := ⟨Nat.le_trans hi.out HL.out⟩
    by_cases hlt : i < l.length
    · have p1 : (0 : Int) ≤ (i : Int) := Int.natCast_nonneg i
      have q1 : (i : Int) < (l.length : Int) := Int.ofNat_lt.2 hlt
      have hi1 : IntKind.i64.wrap ((i : Int) + 1) = (i : Int) + 1 := by have := hil60.out; unfold IntKind.wrap; simp [IntKind.signed, IntKind.bits]; omega
      obtain ⟨ad, rfl, hx0, hx1, hx2, hx3⟩ := at_T52 HC.out (i : Int) p1 q1
      rw [rd52 hlt] at hx0 hx1 hx2 hx3
      rw [Int.toNat_natCast] at hx0 hx1 hx2 hx3
      obtain ⟨C, hC⟩ : ∃ C, C = l[i] := ⟨_, rfl⟩
      rw [← hC] at hx0 hx1 hx2 hx3
      have hwf : Aside0 ((Lit.int .i64 C.f0).wf = true ∧ (Lit.int .i64 C.f1).wf = true) := ⟨hC ▸ HW.out _ (List.getElem_mem hlt)⟩
      have hCA := Aside0.mk hC
      clear hC
      replace hx0 := (HBr.out.cell (World.block_lt_of_cell? w _ hx0)).trans hx0
      replace hx1 := (HBr.out.cell (World.block_lt_of_cell? w _ hx1)).trans hx1
      replace hx2 := (HBr.out.cell (World.block_lt_of_cell? w _ hx2)).trans hx2
      replace hx3 := (HBr.out.cell (World.block_lt_of_cell? w _ hx3)).trans hx3
      have hul : Aside0 ((rfU (l.take i) C.f0).length ≤ 60) := ⟨by have := rfU_len (l.take i) C.f0; rw [List.length_take] at this; have := hil60.out; omega⟩
      by_cases hg0 : goodC C = 0
      · have HW30 := Aside0.mk (good_walk C.f0 C.f1 C.f2.f0 C.f2.f1)
        rw [show goodZ C.f0 C.f1 C.f2.f0 C.f2.f1 = 0 from hg0] at HW30
        go_wp2_with (go_at_call 30; refine (HW30.out _).mono ?_; rintro e w5 ⟨rfl, hb5⟩; have HB5 := Aside0.mk (below_step (below_alloc HBr.out _) hb5); have BK5 := Aside0.mk (blk_below (blk_new wr _) hb5); have HG5 := Aside0.mk ((GAt.kept hGA.out (below_alloc (Below.refl _ _) _)).kept hb5); have HWR := Aside0.mk (below_step (below_alloc (Below.refl wr.heap.size wr) _) hb5); clear hb5)
        have HQ : Aside0 (GInv ⟨w, w.heap.size, w.heap.size, i, D, vf, rfU (l.take i), C.f0, C.f1, wr.heap.size, #[.int .i64 C.f0, .int .i64 C.f1, .int .i64 C.f2.f0, .int .i64 C.f2.f1]⟩ false false false undef undef w5) := ⟨⟨HB5.out, BK5.out, fun _ => HG5.out.map, (fun e => by cases e), fun j _ => HG5.out.own j, fun _ => HG5.out.own C.f0, (fun e => by cases e), (fun e => by cases e), (fun e => by cases e)⟩⟩
        refine wp_region_inv (fun j v => match j with
          | 0 => v = .map (some w.heap.size)
          | 1 => v = .pointer (some ⟨wr.heap.size, 0, none⟩)
          | 2 => v = .int .i64 C.f0
          | 3 => v = .map (some w.heap.size)
          | 4 => v = .pointer (some ⟨wr.heap.size, 0, none⟩)
          | 5 => v = .int .i64 C.f0
          | 6 => v = vf C.f0
          | 7 => v = .pointer (some ⟨wr.heap.size, 1, none⟩)
          | 8 => v = .int .i64 C.f1
          | _ => True) (fun L sl w' => GInv ⟨w, w.heap.size, w.heap.size, i, D, vf, rfU (l.take i), C.f0, C.f1, wr.heap.size, #[.int .i64 C.f0, .int .i64 C.f1, .int .i64 C.f2.f0, .int .i64 C.f2.f1]⟩ (L 9) (L 10) (L 11) (sl 9) (sl 10) w') (by kernel_rfl) (by kernel_rfl) ?_ ?_ ?_ ?_ ?_
        · exact fun sl => HQ.out.drew
        · intro j hj
          rcases Nat.lt_or_ge j 12 with h | h
          · obtain rfl | rfl | rfl | rfl | rfl | rfl | rfl | rfl | rfl | rfl | rfl | rfl : j = 0 ∨ j = 1 ∨ j = 2 ∨ j = 3 ∨ j = 4 ∨ j = 5 ∨ j = 6 ∨ j = 7 ∨ j = 8 ∨ j = 9 ∨ j = 10 ∨ j = 11 := by omega
            all_goals first | trivial | exact absurd hj (by decide +kernel)
          · match j, h with | k + 12, _ => trivial
        · intro j o a w' L hj ho hF hL hd hcl hI
          replace hj : j < 12 := hj
          obtain rfl | rfl | rfl | rfl | rfl | rfl | rfl | rfl | rfl | rfl | rfl | rfl : j = 0 ∨ j = 1 ∨ j = 2 ∨ j = 3 ∨ j = 4 ∨ j = 5 ∨ j = 6 ∨ j = 7 ∨ j = 8 ∨ j = 9 ∨ j = 10 ∨ j = 11 := by omega
          case inl =>
            cases ho
            have s0 := hF.get (k := 3) (by decide +kernel)
            change a.tmps.getD 3 undef = .map (some w.heap.size) at s0
            clear hcl hd
            have hI := Aside0.mk hI
            go_simp
            exact StepPost.mk rfl (fun sl hs hn => by rw [hs 9 (by decide +kernel) (by decide), hs 10 (by decide +kernel) (by decide)]; exact hI.out)
          case inr.inl =>
            cases ho
            have s0 := hF.get (k := 5) (by decide +kernel)
            change a.tmps.getD 5 undef = .pointer (some ⟨wr.heap.size, 0, none⟩) at s0
            clear hcl hd
            have hI := Aside0.mk hI
            go_simp
            exact StepPost.mk rfl (fun sl hs hn => by rw [hs 9 (by decide +kernel) (by decide), hs 10 (by decide +kernel) (by decide)]; exact hI.out)
          case inr.inr.inl =>
            cases ho
            have e1 : a.tmps.getD 19 undef = .pointer (some ⟨wr.heap.size, 0, none⟩) := (hd ⟨1, .data⟩ (by simp) rfl).2
            have hx : w'.cell? ⟨wr.heap.size, 0, none⟩ = some (.int .i64 C.f0) := (blk_cell hI.hc 0).trans rfl
            clear hcl hd
            have hI := Aside0.mk hI
            go_simp
            exact StepPost.mk rfl (fun sl hs hn => by rw [hs 9 (by decide +kernel) (by decide), hs 10 (by decide +kernel) (by decide)]; exact hI.out)
          case inr.inr.inr.inl =>
            cases ho
            have s0 := hF.get (k := 3) (by decide +kernel)
            change a.tmps.getD 3 undef = .map (some w.heap.size) at s0
            clear hcl hd
            have hI := Aside0.mk hI
            go_simp
            exact StepPost.mk rfl (fun sl hs hn => by rw [hs 9 (by decide +kernel) (by decide), hs 10 (by decide +kernel) (by decide)]; exact hI.out)
          case inr.inr.inr.inr.inl =>
            cases ho
            have s0 := hF.get (k := 5) (by decide +kernel)
            change a.tmps.getD 5 undef = .pointer (some ⟨wr.heap.size, 0, none⟩) at s0
            clear hcl hd
            have hI := Aside0.mk hI
            go_simp
            exact StepPost.mk rfl (fun sl hs hn => by rw [hs 9 (by decide +kernel) (by decide), hs 10 (by decide +kernel) (by decide)]; exact hI.out)
          case inr.inr.inr.inr.inr.inl =>
            cases ho
            have e4 : a.tmps.getD 22 undef = .pointer (some ⟨wr.heap.size, 0, none⟩) := (hd ⟨4, .data⟩ (by simp) rfl).2
            have hx : w'.cell? ⟨wr.heap.size, 0, none⟩ = some (.int .i64 C.f0) := (blk_cell hI.hc 0).trans rfl
            clear hcl hd
            have hI := Aside0.mk hI
            go_simp
            exact StepPost.mk rfl (fun sl hs hn => by rw [hs 9 (by decide +kernel) (by decide), hs 10 (by decide +kernel) (by decide)]; exact hI.out)
          case inr.inr.inr.inr.inr.inr.inl =>
            cases ho
            have e3 : a.tmps.getD 21 undef = .map (some w.heap.size) := (hd ⟨3, .data⟩ (by simp) rfl).2
            have e5 : a.tmps.getD 23 undef = .int .i64 C.f0 := (hd ⟨5, .data⟩ (by simp) rfl).2
            have f11 : L 11 = false := by cases h : L 11 with | false => rfl | true => exact absurd (hcl 11 _ rfl h ⟨6, .phase⟩ (by simp) rfl) (by rw [hL]; simp)
            replace hI : GInv ⟨w, w.heap.size, w.heap.size, i, D, vf, rfU (l.take i), C.f0, C.f1, wr.heap.size, #[.int .i64 C.f0, .int .i64 C.f1, .int .i64 C.f2.f0, .int .i64 C.f2.f1]⟩ (L 9) (L 10) (L 11) (slotOf _ a 9) (slotOf _ a 10) w' := hI
            have hmap := hI.map f11
            obtain ⟨vv, ps, hrun, hv⟩ := hmap.lookup K3 Try.underlying95 (zero24 w') (z := nilS) rfl (keyOf_int_mk Try.underlying3 hwf.out.1)
            rw [hGA.out.isAt C.f0] at hv
            obtain rfl := heldR_inv hv
            clear hcl hd hmap hv
            have hI := Aside0.mk hI
            go_simp
            exact StepPost.mk rfl (fun sl hs hn => by rw [hs 9 (by decide +kernel) (by decide), hs 10 (by decide +kernel) (by decide)]; exact hI.out)
          case inr.inr.inr.inr.inr.inr.inr.inl =>
            cases ho
            have s0 := hF.get (k := 5) (by decide +kernel)
            change a.tmps.getD 5 undef = .pointer (some ⟨wr.heap.size, 0, none⟩) at s0
            clear hcl hd
            have hI := Aside0.mk hI
            go_simp
            exact StepPost.mk rfl (fun sl hs hn => by rw [hs 9 (by decide +kernel) (by decide), hs 10 (by decide +kernel) (by decide)]; exact hI.out)
          case inr.inr.inr.inr.inr.inr.inr.inr.inl =>
            cases ho
            have e7 : a.tmps.getD 25 undef = .pointer (some ⟨wr.heap.size, 1, none⟩) := (hd ⟨7, .data⟩ (by simp) rfl).2
            have hx : w'.cell? ⟨wr.heap.size, 1, none⟩ = some (.int .i64 C.f1) := (blk_cell hI.hc 1).trans rfl
            clear hcl hd
            have hI := Aside0.mk hI
            go_simp
            exact StepPost.mk rfl (fun sl hs hn => by rw [hs 9 (by decide +kernel) (by decide), hs 10 (by decide +kernel) (by decide)]; exact hI.out)
          case inr.inr.inr.inr.inr.inr.inr.inr.inr.inl =>
            cases ho
            have e8 : a.tmps.getD 26 undef = .int .i64 C.f1 := (hd ⟨8, .data⟩ (by simp) rfl).2
            rw [Array.getD_eq_getD_getElem?] at e8
            clear hcl hd
            have hI := Aside0.mk hI
            go_simp
            refine StepPost.mk ?_ (fun sl hs hn => ?_)
            · trivial
            · rw [hn (by decide +kernel), hs 10 (by decide +kernel) (by decide)]
              exact hI.out.new9
          case inr.inr.inr.inr.inr.inr.inr.inr.inr.inr.inl =>
            cases ho
            have e6 : a.tmps.getD 24 undef = vf C.f0 := (hd ⟨6, .data⟩ (by simp) rfl).2
            have t9 := (hd ⟨9, .data⟩ (by simp) rfl).1
            have f11 : L 11 = false := by cases h : L 11 with | false => rfl | true => exact absurd (hcl 11 _ rfl h ⟨10, .data⟩ (by simp) rfl) (by rw [hL]; simp)
            replace hI : GInv ⟨w, w.heap.size, w.heap.size, i, D, vf, rfU (l.take i), C.f0, C.f1, wr.heap.size, #[.int .i64 C.f0, .int .i64 C.f1, .int .i64 C.f2.f0, .int .i64 C.f2.f1]⟩ (L 9) (L 10) (L 11) (slotOf _ a 9) (slotOf _ a 10) w' := hI
            rw [t9, hL, f11] at hI
            obtain ⟨g, hs9, hg⟩ := hI.n9 rfl rfl
            refine wp_append_lies _ (.tmp 24) (.tmp 27) 24 rfl w.heap.size 3 i3 (.int .i64 0) 1 8 Try.underlying24 hi3 hz0 hz1 hz2 rfl (by decide) (vf C.f0) (rfU (l.take i) C.f0).length (intsV (rfU (l.take i) C.f0)) e6 (hI.own rfl) ⟨g, 0, none⟩ 1 1 [.int .i64 C.f1] hs9 rfl (news_blk hg) (one_int C.f1) (by decide) (by have := hul.out; unfold maxLen; omega) (by have := hul.out; omega) (by exact hI.below.size) w'.heap.size rfl ?_
            intro g' cap w2 ho hg2 hat _
            refine StepPost.mk ?_ (fun sl hs hn => ?_)
            · trivial
            rw [hs 9 (by decide +kernel) (by decide), hn (by decide +kernel)]
            show GInv ⟨w, w.heap.size, w.heap.size, i, D, vf, rfU (l.take i), C.f0, C.f1, wr.heap.size, #[.int .i64 C.f0, .int .i64 C.f1, .int .i64 C.f2.f0, .int .i64 C.f2.f1]⟩ (L 9) true (L 11) _ _ _
            rw [t9, f11]
            exact hI.app10 (Nat.le_refl _) (fun j hj => hGA.out.apart j C.f0 hj) ho hg2 hat
          case inr.inr.inr.inr.inr.inr.inr.inr.inr.inr.inr =>
            cases ho
            have e0 : a.tmps.getD 18 undef = .map (some w.heap.size) := (hd ⟨0, .data⟩ (by simp) rfl).2
            have e2 : a.tmps.getD 20 undef = .int .i64 C.f0 := (hd ⟨2, .data⟩ (by simp) rfl).2
            have t10 := (hd ⟨10, .data⟩ (by simp) rfl).1
            have t9 := hcl 10 _ rfl t10 ⟨9, .data⟩ (by simp) rfl
            replace hI : GInv ⟨w, w.heap.size, w.heap.size, i, D, vf, rfU (l.take i), C.f0, C.f1, wr.heap.size, #[.int .i64 C.f0, .int .i64 C.f1, .int .i64 C.f2.f0, .int .i64 C.f2.f1]⟩ (L 9) (L 10) (L 11) (slotOf _ a 9) (slotOf _ a 10) w' := hI
            rw [t9, t10, hL] at hI
            obtain ⟨gv, cv, hv⟩ := own_form (hI.own' rfl) (Nat.succ_ne_zero _)
            have e10 : a.tmps.getD 28 undef = .slice (some ⟨gv, 0, none⟩) ((rfU (l.take i) C.f0).length + 1) cv := hv
            obtain ⟨w2, hrun, hm2, hg2⟩ := (hI.map rfl).update K3 Try.underlying95 (show i < maxLen by have := hil60.out; unfold maxLen; omega) (keyOf_int_mk Try.underlying3 hwf.out.1) (d := .held (.slice (some ⟨gv, 0, none⟩) ((rfU (l.take i) C.f0).length + 1) cv)) (ps := []) (val := .slice (some ⟨gv, 0, none⟩) ((rfU (l.take i) C.f0).length + 1) cv) rfl
            have hA := Aside0.mk hv
            have hput := Aside0.mk (hI.put11 (Nat.le_refl _) (by rw [hv]; exact hm2) hg2)
            have hT := Aside0.mk (And.intro t9 t10)
            clear hcl hd hI hv t9 t10 hL hm2 hg2
            go_simp
            refine StepPost.none ?_ (fun sl hs hn => ?_)
            · trivial
            rw [hs 9 (by decide +kernel) (by decide), hs 10 (by decide +kernel) (by decide)]
            show GInv ⟨w, w.heap.size, w.heap.size, i, D, vf, rfU (l.take i), C.f0, C.f1, wr.heap.size, #[.int .i64 C.f0, .int .i64 C.f1, .int .i64 C.f2.f0, .int .i64 C.f2.f1]⟩ (L 9) (L 10) true _ _ _
            rw [hT.out.1, hT.out.2]
            exact hput.out
        · intro vs w' hv hI
          have hdn := Aside0.mk (hI.done hGA.out.map.isMap hGA.out.isAt hGA.out.apart)
          have hbl := Aside0.mk hI.below
          clear hv hI
          generalize hLt : layF _ _ _ vs = LL
          obtain rfl : LL = [.slice (some ad) l.length c, undef, .map none, .map (some w.heap.size), undef, .pointer (some ⟨wr.heap.size, 0, none⟩), undef, undef, .map (some w.heap.size), .slice (some ad) l.length c, .int .i64 l.length, .int .i64 i, .bool true, .pointer (some (ad.add (i * 4))), .agg #[.int .i64 C.f0, .int .i64 C.f1, .int .i64 C.f2.f0, .int .i64 C.f2.f1], .agg #[.int .i64 C.f0, .int .i64 C.f1, .int .i64 C.f2.f0, .int .i64 C.f2.f1], .int .i64 0, .bool true, vs 0, vs 1, vs 2, vs 3, vs 4, vs 5, vs 6, vs 7, vs 8, vs 9, vs 10, u29, undef, undef, undef, undef, undef, undef, undef, undef, undef] := hLt.symm
          clear hLt
          go_wp2
          go_roundw
          case rel => exact ⟨i + 1, _, _, by simp, ⟨hlt⟩, ⟨by have h := hdn.out; rw [rfU_good hlt hCA.out hg0]; exact h⟩, hbl⟩
          case measure => simp [intOf]; omega
        · intro L L' sl w' he hI
          rw [← he 9 (by decide +kernel), ← he 10 (by decide +kernel), ← he 11 (by decide +kernel)]
          exact hI
      · have hgb : (goodC C == 0) = false := beq_eq_false_iff_ne.mpr hg0
        have HW30 := Aside0.mk (good_walk C.f0 C.f1 C.f2.f0 C.f2.f1)
        rw [show goodZ C.f0 C.f1 C.f2.f0 C.f2.f1 = goodC C from rfl] at HW30
        go_wp2_with (go_at_call 30; refine (HW30.out _).mono ?_; rintro e w5 ⟨rfl, hb5⟩; have HB5 := Aside0.mk (below_step (below_alloc HBr.out _) hb5); have HG5 := Aside0.mk ((GAt.kept hGA.out (below_alloc (Below.refl _ _) _)).kept hb5); clear hb5)
        go_roundw
        case rel => exact ⟨i + 1, D, vf, by simp, ⟨hlt⟩, ⟨by rw [rfU_bad hlt hCA.out hg0]; exact ⟨HG5.out.map.mono (Nat.le_succ i), HG5.out.isAt, HG5.out.own, HG5.out.apart⟩⟩, HB5⟩
        case measure => simp [intOf]; omega
    · obtain rfl : i = l.length := by omega
      obtain ⟨wo, hwo⟩ : ∃ x, x = wr := ⟨wr, rfl⟩
      subst hwo
      have HBo := HBr
      have HGL : Aside0 (GAt wo w.heap.size w.heap.size 60 D vf (rfU l)) := ⟨by have h := hGA.out; rw [List.take_length] at h; exact ⟨h.map.mono HL.out, h.isAt, h.own, h.apart⟩⟩
      clear hGA
      go_wp2_with (at_range; refine wpList_range_own _ rfl _ 95 rfl 3 24 K3 Try.underlying95 heldR w.heap.size 60 D rfl HGL.out.map ?_; intro w0 hrg0 hg0 hs0)
      have HR0 := Aside0.mk hrg0
      have HO0 : Aside0 (∀ k, w0.ownsRow w.heap.size 3 1 (vf k) (rfU l k).length (intsV (if Maps.has D (keyL k) = true then rfU l k else rfS l k))) := ⟨fun k => by
        have h := (HGL.out.own k).kept hg0 (by cases (vf k).ownBlock <;> simp)
        by_cases hk : Maps.has D (keyL k) = true
        · rw [if_pos hk]; exact h
        · have hn := gat_nil HGL.out k (by simpa using hk)
          rw [if_neg hk]
          unfold rfS
          rw [hn] at h ⊢
          rw [show sortZ [] = [] from by simp [sortZ]]
          exact h⟩
      have HB0 := Aside0.mk (grown_below HBr.out hg0 (fun k hk => by cases hk))
      clear hrg0 hg0 hs0
      go_frame
      go_loopw [7] (fun _ wr => ∃ (left : Lit → Bool) (cnt : Nat), Aside0 (wr.ranges Try.prog 3 heldR w.heap.size wo.heap.size 60 D left cnt) ∧ Aside0 (∀ k, wr.ownsRow w.heap.size 3 1 (vf k) (rfU l k).length (intsV (if left (keyL k) = true then rfU l k else rfS l k))) ∧ Aside0 (Below w.heap.size w wr)) (fun _ wr => wr.rangeLeft w.heap.size wo.heap.size)
      case atStart => exact ⟨_, _, HR0, HO0, HB0⟩
      case round =>
        clear HR0 HO0 HB0
        obtain ⟨left, cnt, HR, HO, HBq⟩ := hrel
        go_wp2_with (at_next; refine wpList_next_ranges _ rfl _ rfl 3 K3 heldR (Value.int .i64) (fun q : Option Addr × Nat × Nat => Value.slice q.1 q.2.1 q.2.2) (fun key kl hk => by obtain ⟨x, hx, _⟩ := Maps.keyOf_int_inv Try.underlying3 hk; exact ⟨x, hx⟩) (fun v y hv => by obtain ⟨a, n, c, hv, _⟩ := heldR_form hv; exact ⟨(a, n, c), hv⟩) w.heap.size wo.heap.size 60 D left cnt rfl HR.out ?_ ?_)
        · intro hc0 hl0
          have HL0 := Aside0.mk hl0
          clear hc0 hl0
          go_wp2
          go_ret
          exact ⟨w.heap.size, D, vf, rfl, ⟨HR.out.owns, HGL.out.isAt, fun k => by have h := HO.out k; rw [HL0.out, if_neg (by simp)] at h; rw [show (rfS l k).length = (rfU l k).length from sortZ_len _]; exact h, HGL.out.apart⟩, HBq.out⟩
        · intro x qa qn qc kl yd yp w2 cnt2 hkey hlk hv hat hrg2 hlt2 hg2 hs2 hen
          obtain ⟨x', ex, rfl, _⟩ := Maps.keyOf_int_inv Try.underlying3 hkey
          cases ex
          have hvx : Aside0 (vf x = .slice qa qn qc) := ⟨by
            have h1 := hat (.held nilS)
            rw [HGL.out.isAt x] at h1
            obtain ⟨a, n, c, hs, hy⟩ := heldR_form hv
            simp only [Prod.mk.injEq] at hy
            rw [hy.1] at h1
            injection h1 with h1
            rw [h1, ← hs]⟩
          have HO2 : Aside0 (∀ k, w2.ownsRow w.heap.size 3 1 (vf k) (rfU l k).length (intsV (if left (keyL k) = true then rfU l k else rfS l k))) := ⟨fun k => (HO.out k).kept hg2 (by
            cases hb : (vf k).ownBlock with
            | none => exact .inl rfl
            | some g => exact .inr fun e => row_ne_iter (HO.out k) HR.out (by rw [hb]; exact e.symm))⟩
          have HX : Aside0 (w2.ownsRow w.heap.size 3 1 (.slice qa qn qc) (rfU l x).length (intsV (rfU l x))) := ⟨by have h := HO2.out x; rw [if_pos hlk, hvx.out] at h; exact h⟩
          have HR2 := Aside0.mk hrg2
          have HLT := Aside0.mk hlt2
          have HB2 := Aside0.mk (grown_below HBq.out hg2 (fun k hk => by
            cases hk
            exact HBo.out.size))
          have hlen : Aside0 ((rfU l x).length < 4611686018427387904) := ⟨by have := rfU_len l x; have := HL.out; omega⟩
          have HK := Aside0.mk hlk
          clear hkey hv hat hrg2 hlt2 hg2 hs2 hlk
          go_wp2_with (go_at_call 64; refine (sort_row w2 HX.out hlen.out).mono ?_; rintro e w3 ⟨rfl, ho3, hg3⟩; have HO3 := Aside0.mk ho3; have HG3 := Aside0.mk hg3; clear ho3 hg3 hen)
          have hrg3 := Aside0.mk (HR2.out.kept HG3.out (own_map HX.out HR2.out.owns) (row_ne_iter HX.out HR2.out))
          go_roundw
          case rel => exact ⟨_, cnt2, hrg3, ⟨fun k => by
            by_cases hk : k = x
            · subst hk
              have h := HO3.out
              rw [← hvx.out] at h
              simpa [keyL, Lit.sameKey, rfS] using h
            · have h := (HO2.out k).kept HG3.out (by rw [← hvx.out]; exact HGL.out.apart k x hk)
              have hne : (keyL k).sameKey (keyL x) = false := Maps.sameKey_ne (fun e => hk (by injection e))
              simp only [hne, Bool.not_false, Bool.and_true]
              exact h⟩, ⟨grown_below HB2.out HG3.out (fun k hk => (HX.out.lt k hk).1)⟩⟩
          case measure => rw [hrg3.out.left_eq, HR.out.left_eq]; exact HLT.out
end Go.Proofs.Ytjceapbbapofmaa.Q
