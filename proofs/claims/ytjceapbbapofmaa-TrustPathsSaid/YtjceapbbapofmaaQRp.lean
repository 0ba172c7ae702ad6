/- The reference's TrustPath, walked. -/
import Derived.Test.YtjceapbbapofmaaQWy
import Derived.Lib.SliceRun
namespace Go.Proofs.Ytjceapbbapofmaa.Q
open Go.RowKit Go.Maps Go.Proofs.Ytjceapbbapofmaa.Pure Go.Proofs.Ytjceapbbapofmaa.PTrustPaths Go.Proofs.Ytjceapbbapofmaa.PgTrust Go.Proofs.Ytjceapbbapofmaa.Trust Go.Proofs.Ytjceapbbapofmaa.FnsTrustPaths Go.Proofs.Ytjceapbbapofmaa.SignMath Go.Proofs.YtjceapbbapofmaaW.PrintWords Go.Proofs.YtjceapbbapofmaaW.PrintLast Go.Proofs.YtjceapbbapofmaaW.PrintMore
set_option linter.unusedVariables false
set_option linter.unusedSimpArgs false
theorem info24 : (Try.prog.info? 24).map (fun i => (i.zero, i.size, i.bytes)) = some (some nilS, 1, 24) := by kernel_rfl
/-- A way, or none yet, as it lies. -/
def RowAt (w w' : World) (v : Value) (ob : Option (List Int)) : Prop := (ob = none ∧ v = nilS) ∨ ∃ p, ob = some p ∧ p ≠ [] ∧ w'.ownsRow w.heap.size 3 1 v p.length (intsV p)
theorem row_none {w w' : World} {v : Value} (h : RowAt w w' v none) : v = nilS := by
  rcases h with ⟨_, h⟩ | ⟨p, h, _⟩
  · exact h
  · cases h
theorem row_some {w w' : World} {v : Value} {p : List Int} (h : RowAt w w' v (some p)) : p ≠ [] ∧ w'.ownsRow w.heap.size 3 1 v p.length (intsV p) := by
  rcases h with ⟨h, _⟩ | ⟨q, h, hn, ho⟩
  · cases h
  · cases h; exact ⟨hn, ho⟩
structure PInv (w w' : World) (ks : List Int) (g8 b1 : Nat) (vk : Value) (b : Best) (M : Nat) : Prop where
  below : Below w.heap.size w w'
  hk : w'.heap[g8]? = some (.cells #[vk] 24 (0, 0))
  own : w'.ownsRow w.heap.size 3 1 vk ks.length (intsV ks)
  ge8 : w.heap.size ≤ g8
  ge1 : w.heap.size ≤ b1
  ne : g8 ≠ b1
  out : ∀ k, k ∉ ks → b k = none
  len : ∀ k p, b k = some p → p.length ≤ M
  rows : ∃ arr, w'.heap[b1]? = some (.cells arr 24 (0, 0)) ∧ arr.size = ks.length ∧ ∀ (i : Nat) k, ks[i]? = some k → ∃ v, arr[i]? = some v ∧ RowAt w w' v (b k)
section
variable {w w' w'' : World} {ks : List Int} {g8 b1 : Nat} {vk : Value} {b : Best} {M : Nat}
theorem PInv.step (h : PInv w w' ks g8 b1 vk b M) (hb : Below w'.heap.size w' w'') : PInv w w'' ks g8 b1 vk b M := by
  obtain ⟨arr, h1, h2, h3⟩ := h.rows
  refine ⟨below_step h.below hb, blk_below h.hk hb, pw_own_below h.own hb, h.ge8, h.ge1, h.ne, h.out, h.len, arr, blk_below h1 hb, h2, fun i k hik => ?_⟩
  obtain ⟨v, hv, hr⟩ := h3 i k hik
  refine ⟨v, hv, ?_⟩
  rcases hr with hr | ⟨p, e, hne, ho⟩
  · exact .inl hr
  · exact .inr ⟨p, e, hne, pw_own_below ho hb⟩
theorem PInv.more (h : PInv w w' ks g8 b1 vk b M) {M' : Nat} (hm : M ≤ M') : PInv w w' ks g8 b1 vk b M' :=
  ⟨h.below, h.hk, h.own, h.ge8, h.ge1, h.ne, h.out, fun k p hp => Nat.le_trans (h.len k p hp) hm, h.rows⟩
theorem PInv.at_ (h : PInv w w' ks g8 b1 vk b M) {i : Nat} {k : Int} (hik : ks[i]? = some k) : ∃ v, w'.cell? ⟨b1, i, none⟩ = some v ∧ RowAt w w' v (b k) := by
  obtain ⟨arr, h1, h2, h3⟩ := h.rows
  obtain ⟨v, hv, hr⟩ := h3 i k hik
  exact ⟨v, by rw [blk_cell h1 i, hv], hr⟩
theorem PInv.frz (h : PInv w w' ks g8 b1 vk b M) (i : Nat) : w'.frozen? ⟨b1, i, none⟩ = false := by
  obtain ⟨arr, h1, _⟩ := h.rows
  exact blk_frozen h1 i
theorem PInv.put_ (h : PInv w w' ks g8 b1 vk b M) (hn : ks.Nodup) {i : Nat} {t : Int} (hit : ks[i]? = some t) {v : Value} {p : List Int} (hne : p ≠ []) (ho : w'.ownsRow w.heap.size 3 1 v p.length (intsV p)) (hp : p.length ≤ M + 1) : PInv w (w'.setCell ⟨b1, i, none⟩ v) ks g8 b1 vk (put b t p) (M + 1) := by
  obtain ⟨arr, h1, h2, h3⟩ := h.rows
  have hil : i < ks.length := (List.getElem?_eq_some_iff.1 hit).1
  have hset : ∀ {n : Nat} {u : Value} {xs : List Value}, w'.ownsRow w.heap.size 3 1 u n xs → (w'.setCell ⟨b1, i, none⟩ v).ownsRow w.heap.size 3 1 u n xs := fun {n u xs} hu => by
    have hg : w'.grownBy (w'.setCell ⟨b1, i, none⟩ v) (some b1) := ⟨rfl, rfl, rfl, by simp, fun k hk hne => Below.heap_setCell w' ⟨b1, i, none⟩ v k (fun e => hne (by rw [e]))⟩
    refine hu.kept hg ?_
    cases hq : u.ownBlock with
    | none => exact .inl rfl
    | some q => exact .inr fun e => own_apart hu h1 (by decide) (by rw [hq]; exact e.symm)
  refine ⟨below_set h.below h.ge1, blk_far h.hk h.ne _, hset h.own, h.ge8, h.ge1, h.ne, fun k hk => ?_, fun k q hq => ?_, arr.setIfInBounds i v, blk_put h1 i v rfl, by simpa using h2, fun j k hjk => ?_⟩
  · unfold put
    rw [if_neg (fun e : k = t => hk (by rw [e]; exact List.mem_of_getElem? hit))]
    exact h.out k hk
  · unfold put at hq
    by_cases e : k = t
    · rw [if_pos e] at hq; cases hq; exact hp
    · rw [if_neg e] at hq; exact Nat.le_succ_of_le (h.len k q hq)
  · by_cases e : j = i
    · subst e
      rw [hit] at hjk
      cases hjk
      refine ⟨v, by simp [h2, hil], .inr ⟨p, by unfold put; rw [if_pos rfl], hne, hset ho⟩⟩
    · obtain ⟨u, hu, hr⟩ := h3 j k hjk
      have hkt : k ≠ t := fun e' => by
        subst e'
        obtain ⟨hj, hj'⟩ := List.getElem?_eq_some_iff.1 hjk
        obtain ⟨hi', hi2⟩ := List.getElem?_eq_some_iff.1 hit
        have hpw := List.pairwise_iff_getElem.1 hn
        rcases Nat.lt_or_gt_of_ne e with h | h
        · exact hpw j i hj hi' h (hj'.trans hi2.symm)
        · exact hpw i j hi' hj h (hi2.trans hj'.symm)
      refine ⟨u, by rw [Array.getElem?_setIfInBounds_ne (Ne.symm e)]; exact hu, ?_⟩
      unfold put
      rw [if_neg hkt]
      rcases hr with hr | ⟨q, e', hne', ho'⟩
      · exact .inl hr
      · exact .inr ⟨q, e', hne', hset ho'⟩
end
theorem place_in {xs : List Int} {k z : Int} (h : IsPlace xs k z) (hk : k ∈ xs) : ∃ i : Nat, z = i ∧ xs[i]? = some k := by
  rcases h with h | ⟨_, h⟩
  · exact h
  · exact absurd hk h
theorem place_out {xs : List Int} {k z : Int} (h : IsPlace xs k z) (hk : k ∉ xs) : z = -1 := by
  rcases h with ⟨i, _, h⟩ | ⟨h, _⟩
  · exact absurd (List.mem_of_getElem? h) hk
  · exact h
theorem pinv0 {w w' : World} {ks : List Int} {g8 : Nat} {vk : Value} (hb : Below w.heap.size w w') (hk : w'.heap[g8]? = some (.cells #[vk] 24 (0, 0))) (ho : w'.ownsRow w.heap.size 3 1 vk ks.length (intsV ks)) (h8 : w.heap.size ≤ g8) :
    PInv w (w'.alloc (.cells (madeCells #[nilS] ks.length) 24)) ks g8 w'.heap.size vk (fun _ => none) 0 := by
  refine ⟨below_alloc hb _, blk_alloc hk _, ho.alloc _, h8, hb.size, Nat.ne_of_lt (blk_lt hk), fun _ _ => rfl, (fun _ _ h => by cases h), _, blk_new w' _, by simp [size_madeCells], fun i k hik => ⟨nilS, ?_, .inl ⟨rfl, rfl⟩⟩⟩
  have hil : i < ks.length := (List.getElem?_eq_some_iff.1 hik).1
  simp [madeCells, hil, Nat.mod_one]
theorem pinv1 {w w3 : World} {ks : List Int} {g8 : Nat} {vk : Value} {root : Int} {ir : Nat} (hb : Below w.heap.size w w3) (hk : w3.heap[g8]? = some (.cells #[vk] 24 (0, 0))) (ho : w3.ownsRow w.heap.size 3 1 vk ks.length (intsV ks)) (h8 : w.heap.size ≤ g8) (hn : ks.Nodup) (hir : ks[ir]? = some root) :
    PInv w ((w3.alloc (.cells ((madeCells #[nilS] ks.length).setIfInBounds ir (.slice (some ⟨w3.heap.size + 1, 0, none⟩) 1 1)) 24)).alloc (.cells #[.int .i64 root] 3)) ks g8 w3.heap.size vk (best0 root) 1 := by
  have hrm : root ∈ ks := List.mem_of_getElem? hir
  refine ⟨below_alloc (below_alloc hb _) _, blk_alloc (blk_alloc hk _) _, (ho.alloc _).alloc _, h8, hb.size, Nat.ne_of_lt (blk_lt hk), fun k hkn => ?_, fun k p hp => ?_, _, blk_alloc (blk_new w3 _) _, by simp [size_madeCells], fun i k hik => ?_⟩
  · unfold best0 put
    rw [if_neg (fun e : k = root => hkn (by rw [e]; exact hrm))]
  · unfold best0 put at hp
    by_cases e : k = root
    · rw [if_pos e] at hp; cases hp; simp
    · rw [if_neg e] at hp; cases hp
  · have hil : i < ks.length := (List.getElem?_eq_some_iff.1 hik).1
    by_cases e : i = ir
    · subst e
      rw [hir] at hik
      cases hik
      refine ⟨_, by simp [size_madeCells, hil]; rfl, .inr ⟨[root], by unfold best0 put; rw [if_pos rfl], by simp, ?_⟩⟩
      have h := own_new (w := w3.alloc (.cells ((madeCells #[nilS] ks.length).setIfInBounds i (.slice (some ⟨w3.heap.size + 1, 0, none⟩) 1 1)) 24)) (x := root) (B := w.heap.size) (by have := hb.size; simp; omega)
      simpa using h
    · have hkr : k ≠ root := fun e' => by
        subst e'
        obtain ⟨hj, hj'⟩ := List.getElem?_eq_some_iff.1 hik
        obtain ⟨hi', hi2⟩ := List.getElem?_eq_some_iff.1 hir
        have hpw := List.pairwise_iff_getElem.1 hn
        rcases Nat.lt_or_gt_of_ne e with h | h
        · exact hpw i ir hj hi' h (hj'.trans hi2.symm)
        · exact hpw ir i hi' hj h (hi2.trans hj'.symm)
      refine ⟨nilS, ?_, .inl ⟨by unfold best0 put; rw [if_neg hkr], rfl⟩⟩
      rw [Array.getElem?_setIfInBounds_ne (Ne.symm e)]
      simp [madeCells, hil, Nat.mod_one]
theorem edges_take {l : List S52} {j : Nat} (h : j < l.length) {C : S52} (hC : C = l[j]) : edges (l.take (j + 1)) = if goodC C = 0 then edges (l.take j) ++ [(C.f0, C.f1)] else edges (l.take j) := by
  rw [take_snoc h hC, edges_snoc]
theorem edges_mem {l : List S52} {j : Nat} (h : j < l.length) {C : S52} (hC : C = l[j]) (hg : goodC C = 0) : (C.f0, C.f1) ∈ edges l := by
  unfold edges
  exact List.mem_map.2 ⟨C, List.mem_filter.2 ⟨hC ▸ List.getElem_mem h, by simpa using hg⟩, rfl⟩
set_option maxRecDepth 100000 in
set_option maxHeartbeats 64000000 in
theorem refPath_walk (root key : Int) (hroot : (Lit.int .i64 root).wf = true) (l : List S52) (A : Option Addr) (c : Nat) (w : World) (hC : Kd.C k52 w A l.length l) :
    Calls Try.prog 33 #[.int .i64 root, .int .i64 key, .slice A l.length c] w (PathPost w l root key) := by
  obtain ⟨i3, hi3, hz0, hz1, hz2⟩ := info_parts info3
  have hmf : ∀ (fn : Fn) (first cap : Array Value) (w : World), (Instr.makeFunc fn first cap).run Try.prog w = .ok (.func fn first cap) w := fun _ _ _ _ => rfl
  have hen1 : ∀ (g n c : Nat) (w : World), (binOp .eql 24 (.slice (some ⟨g, 0, none⟩) n c) (.slice none 0 0)).run Try.prog w = .ok (.bool false) w := fun g n c w => Lib.run_eql_slice_nil w 24 3 _ n c 0 0 Try.underlying24
  have hen0 : ∀ (w : World), (binOp .eql 24 (.slice none 0 0) (.slice none 0 0)).run Try.prog w = .ok (.bool true) w := fun w => Lib.run_eql_slice_nil w 24 3 _ 0 0 0 0 Try.underlying24
  have HC := Aside0.mk hC
  have HRc := Aside0.mk (refReach_walk root hroot l A c w hC)
  clear hC
  by_cases hz : faultZ root l = 0
  · have HZ := Aside0.mk hz
    have hl : l.length ≤ 60 := by
      unfold faultZ at hz
      by_cases h : l.length > 60
      · rw [if_pos h] at hz; cases hz
      · omega
    have HL := Aside0.mk hl
    clear hl
    have HK : Aside0 (∀ w1, Calls Try.prog 47 #[.int .i64 key] w1 fun e w' => e = .returned (.bool (isPub key)) ∧ Drawn0 w1 w') := ⟨fun w1 => isKey_walk key w1⟩
    unfold ReachPost at HRc
    rw [hz] at HRc
    cases hp : isPub key with
    | false =>
      have hpz : pathZ root key l = 2 := by unfold pathZ; rw [if_pos hz, if_neg (by rw [hp]; simp)]
      have hpl : pathL root key l = [] := by unfold pathL; rw [hpz]; rfl
      have HP := Aside0.mk (And.intro hpz hpl)
      rw [hp] at HK
      clear hz hpz hpl
      go_enter Try.func33, Try.ntmps33
      go_wp2_with (first | (go_at_call 36; refine HRc.out.mono ?_; clear HRc; rintro e w1 ⟨v1, rfl, ho1, hb1⟩; have HO1 := Aside0.mk ho1; have HB1 := Aside0.mk hb1; clear ho1 hb1; obtain ⟨A1, c1, rfl⟩ := own_slice HO1.out) | (go_at_call 47; refine (HK.out _).mono ?_; rintro e w2 ⟨rfl, hd⟩; have HB2 := Aside0.mk hd.below; clear hd))
      go_ret2
      refine ⟨nilS, ?_, ?_, below_step (below_alloc HB1.out _) HB2.out⟩
      · rw [HP.out.1]; rfl
      · rw [HP.out.2]; exact World.ownsRow_nil _ _ _ _
    | true =>
      rw [hp] at HK
      have HPb := Aside0.mk hp
      clear hp
      obtain ⟨ks, hks⟩ : ∃ ks, ks = reachL root l := ⟨_, rfl⟩
      have hkl : Aside0 (ks.length ≤ 61) := ⟨hks ▸ reachL_len root l⟩
      have hrin : Aside0 (root ∈ ks) := ⟨by rw [hks]; unfold reachL; rw [if_pos hz]; exact (rounds_end (edges l).length [root] (rnd_start _ _)).1.hroot⟩
      have hnd : Aside0 (ks.Nodup) := ⟨hks ▸ reach_nodup root l⟩
      have hcl : Aside0 (∀ e ∈ edges l, e.1 ∈ ks → e.2 ∈ ks) := ⟨by rw [hks]; unfold reachL; rw [if_pos hz]; exact rounds_closed (edges l) root⟩
      rw [← hks] at HRc
      have HKs := Aside0.mk hks
      clear hz hks
      by_cases hin : key ∈ ks
      · have hpz : pathZ root key l = 0 := by unfold pathZ; rw [if_pos HZ.out, if_pos HPb.out, ← HKs.out, if_pos hin]
        have hpl : pathL root key l = (brounds (edges l) ks.length (best0 root) key).getD [] := by unfold pathL; rw [if_pos hpz, ← HKs.out]
        have HP := Aside0.mk (And.intro hpz hpl)
        have HIn := Aside0.mk hin
        clear hin hpz hpl
        have hmk := print_make_of (P := Try.prog) 84 24 nilS 24 Try.underlying84 info24 rfl (by decide) ks.length (by have := hkl.out; omega)
        go_enter Try.func33, Try.ntmps33
        go_upto_region 9 with (first | (go_at_call 36; refine HRc.out.mono ?_; clear HRc; rintro e w1 ⟨v1, rfl, ho1, hb1⟩; have HO1 := Aside0.mk ho1; have HB1 := Aside0.mk hb1; clear ho1 hb1; obtain ⟨A1, c1, rfl⟩ := own_slice HO1.out) | (go_at_call 47; refine (HK.out _).mono ?_; clear HK; rintro e w2 ⟨rfl, hd⟩; have HB2 := Aside0.mk hd.below; clear hd; have hg8 := Aside0.mk (blk_below (blk_new w1 (.cells #[.slice A1 ks.length c1] 24)) HB2.out); have HO2 := Aside0.mk (pw_own_below (HO1.out.alloc (.cells #[.slice A1 ks.length c1] 24)) HB2.out); have HPl := Aside0.mk (place_walk key _ _ _ ks w2 hg8.out HO2.out)) | (go_at_call 52; refine HPl.out.mono ?_; clear HPl; rintro e w3 ⟨z, rfl, hz, rfl⟩; obtain ⟨i0, rfl, hi0⟩ := place_in hz HIn.out; have HI0 := Aside0.mk hi0; clear hz hi0))
        have hcv : w3.cell? ⟨w1.heap.size, 0, none⟩ = some (.slice A1 ks.length c1) := (blk_cell hg8.out 0).trans rfl
        have HB3 := Aside0.mk (below_step (below_alloc HB1.out (.cells #[.slice A1 ks.length c1] 24)) HB2.out)
        have HI := Aside0.mk (pinv0 HB3.out hg8.out HO2.out HB1.out.size)
        have HI2 := Aside0.mk (fun ir hir => pinv1 (ir := ir) (root := root) HB3.out hg8.out HO2.out HB1.out.size hnd.out hir)
        clear hg8 HO2
        go_upto_region 10 with (fail)
        have HPl := Aside0.mk (place_walk root _ _ _ ks _ HI.out.hk HI.out.own)
        go_upto_region 11 with (first | (go_at_call 52; refine HPl.out.mono ?_; clear HPl; rintro e w3 ⟨z, rfl, hz, rfl⟩; obtain ⟨ir, rfl, hir⟩ := place_in hz hrin.out; have HIr := Aside0.mk hir; have hirl := (List.getElem?_eq_some_iff.1 hir).1; have p1 : (0 : Int) ≤ (ir : Int) := Int.natCast_nonneg _; have q1 : (ir : Int) < (ks.length : Int) := Int.ofNat_lt.2 hirl; have HIa := Aside0.mk (HI.out.step (below_alloc (Below.refl _ _) (.cells #[.int .i64 root] 3))); have hfr := HIa.out.frz ir; obtain ⟨vr, hvr, _⟩ := HIa.out.at_ hir; clear hz hir))
        replace HI2 := Aside0.mk (HI2.out ir HIr.out)
        have hcv2 := (blk_cell HI2.out.hk 0).trans (show _ = some (Value.slice A1 ks.length c1) from rfl)
        clear HI HIa hfr hvr hcv hmk p1 q1 hirl
        go_wp2
        go_loopw [46] (fun v46 wr => ∃ (n : Nat) (b : Best), v46 = .int .i64 n ∧ Aside0 (n ≤ ks.length) ∧ Aside0 (b = brounds (edges l) n (best0 root)) ∧ Aside0 (PInv w wr ks w1.heap.size w3.heap.size (.slice A1 ks.length c1) b (1 + n * 61))) (fun v46 _ => ks.length - (intOf v46).toNat)
        case atStart => exact ⟨0, best0 root, rfl, ⟨Nat.zero_le _⟩, ⟨rfl⟩, HI2⟩
        case round =>
          clear HI2 hcv2
          obtain ⟨n, b0, rfl, hn, hb0, HP0⟩ := hrel
          have hnl := hn.out
          by_cases hnt : n < ks.length
          · have p1 : (0 : Int) ≤ (n : Int) := Int.natCast_nonneg n
            have q1 : (n : Int) < (ks.length : Int) := Int.ofNat_lt.2 hnt
            have hn1 : IntKind.i64.wrap ((n : Int) + 1) = (n : Int) + 1 := by have := hkl.out; unfold IntKind.wrap; simp [IntKind.signed, IntKind.bits]; omega
            go_wp2
            go_loopw [50] (fun v50 wr => ∃ (j : Nat) (b : Best), v50 = .int .i64 j ∧ Aside0 (j ≤ l.length) ∧ Aside0 (b = (edges (l.take j)).foldl relax b0) ∧ Aside0 (PInv w wr ks w1.heap.size w3.heap.size (.slice A1 ks.length c1) b (1 + n * 61 + j))) (fun v50 _ => l.length - (intOf v50).toNat)
            case atStart => exact ⟨0, b0, rfl, ⟨Nat.zero_le _⟩, ⟨rfl⟩, HP0⟩
            case round =>
              clear HP0
              obtain ⟨j, b, rfl, hj, hb, HPj⟩ := hrel
              obtain ⟨wi, hwi⟩ : ∃ x, x = wr := ⟨wr, rfl⟩
              subst hwi
              have hjl := hj.out
              by_cases hjt : j < l.length
              · have p2 : (0 : Int) ≤ (j : Int) := Int.natCast_nonneg j
                have q2 : (j : Int) < (l.length : Int) := Int.ofNat_lt.2 hjt
                have hj1 : IntKind.i64.wrap ((j : Int) + 1) = (j : Int) + 1 := by have := HL.out; unfold IntKind.wrap; simp [IntKind.signed, IntKind.bits]; omega
                obtain ⟨ad, rfl, hx0, hx1, hx2, hx3⟩ := at_T52 HC.out (j : Int) p2 q2
                rw [rd52 hjt] at hx0 hx1 hx2 hx3
                rw [Int.toNat_natCast] at hx0 hx1 hx2 hx3
                obtain ⟨C, hC'⟩ : ∃ C, C = l[j] := ⟨_, rfl⟩
                rw [← hC'] at hx0 hx1 hx2 hx3
                replace hx0 := (HPj.out.below.cell (World.block_lt_of_cell? w _ hx0)).trans hx0
                replace hx1 := (HPj.out.below.cell (World.block_lt_of_cell? w _ hx1)).trans hx1
                replace hx2 := (HPj.out.below.cell (World.block_lt_of_cell? w _ hx2)).trans hx2
                replace hx3 := (HPj.out.below.cell (World.block_lt_of_cell? w _ hx3)).trans hx3
                have hT := Aside0.mk (edges_take hjt hC')
                have hEm : Aside0 (goodC C = 0 → (C.f0, C.f1) ∈ edges l) := ⟨edges_mem hjt hC'⟩
                have hsk : Aside0 ((goodC C = 0 → b C.f0 = none) → (edges (l.take (j + 1))).foldl relax b0 = b) := ⟨fun h => by
                  rw [hT.out]
                  by_cases hg : goodC C = 0
                  · rw [if_pos hg, List.foldl_append, ← hb.out]
                    exact relax_none (e := (C.f0, C.f1)) (h hg)
                  · rw [if_neg hg, hb.out]⟩
                clear hC'
                have HPa := Aside0.mk (HPj.out.step (below_alloc (Below.refl _ _) (.cells #[.int .i64 C.f0, .int .i64 C.f1, .int .i64 C.f2.f0, .int .i64 C.f2.f1] 52)))
                have Hp0 := Aside0.mk (place_walk C.f0 _ _ _ ks _ HPa.out.hk HPa.out.own)
                have HW31 := Aside0.mk (refGood_walk C.f0 C.f1 C.f2.f0 C.f2.f1)
                rw [show goodZ C.f0 C.f1 C.f2.f0 C.f2.f1 = goodC C from rfl] at HW31
                by_cases c0 : C.f0 ∈ ks
                · have HC0 := Aside0.mk c0
                  clear c0
                  cases hbp : b C.f0 with
                  | none =>
                    have hS := Aside0.mk (hsk.out (fun _ => hbp))
                    have HBp := Aside0.mk hbp
                    clear hbp
                    go_wp2_with (go_at_call 52; refine Hp0.out.mono ?_; clear Hp0; rintro e w8 ⟨z, rfl, hz, rfl⟩; obtain ⟨i, rfl, hii⟩ := place_in hz HC0.out; obtain ⟨v, hcv, hrv⟩ := HPa.out.at_ hii; rw [HBp.out] at hrv; obtain rfl := row_none hrv; have hil := (List.getElem?_eq_some_iff.1 hii).1; have p3 : (0 : Int) ≤ (i : Int) := Int.natCast_nonneg i; have q3 : (i : Int) < (ks.length : Int) := Int.ofNat_lt.2 hil; have d3 : decide ((i : Int) < 0) = false := decide_eq_false (by omega); clear hz hrv hii)
                    go_roundw
                    case rel => exact ⟨j + 1, b, by simp, ⟨hjt⟩, ⟨hS.out.symm⟩, ⟨HPa.out.more (by omega)⟩⟩
                    case measure => simp [intOf]; omega
                  | some p =>
                    have HBp := Aside0.mk hbp
                    clear hbp
                    by_cases hg0 : goodC C = 0
                    · have HG0 := Aside0.mk hg0
                      rw [hg0] at HW31
                      clear hg0
                      have hf1 : Aside0 (C.f1 ∈ ks) := ⟨hcl.out _ (hEm.out HG0.out) HC0.out⟩
                      have hfold : Aside0 ((edges (l.take (j + 1))).foldl relax b0 = relax b (C.f0, C.f1)) := ⟨by rw [hT.out, if_pos HG0.out, List.foldl_append, ← hb.out]; rfl⟩
                      go_upto_region 19 with (first | (go_at_call 52; refine Hp0.out.mono ?_; clear Hp0; rintro e w8 ⟨z, rfl, hz, rfl⟩; obtain ⟨i, rfl, hii⟩ := place_in hz HC0.out; obtain ⟨v, hcv, hrv⟩ := HPa.out.at_ hii; rw [HBp.out] at hrv; have HOv := Aside0.mk (row_some hrv); obtain ⟨gv, cv, rfl⟩ := own_form (row_some hrv).2 (fun h => (row_some hrv).1 (List.eq_nil_of_length_eq_zero h)); have hil := (List.getElem?_eq_some_iff.1 hii).1; have p3 : (0 : Int) ≤ (i : Int) := Int.natCast_nonneg i; have q3 : (i : Int) < (ks.length : Int) := Int.ofNat_lt.2 hil; have d3 : decide ((i : Int) < 0) = false := decide_eq_false (by omega); have HII := Aside0.mk hii; clear hz hrv hii) | (go_at_call 31; refine (HW31.out _).mono ?_; clear HW31; rintro e w5 ⟨rfl, hb5⟩; have HP5 := Aside0.mk (HPa.out.step hb5); have HC5 := Aside0.mk (blk_below (blk_new wi (.cells #[.int .i64 C.f0, .int .i64 C.f1, .int .i64 C.f2.f0, .int .i64 C.f2.f1] 52)) hb5); have HO5 := Aside0.mk (pw_own_below HOv.out.2 hb5); have Hp1 := Aside0.mk (place_walk C.f1 _ _ _ ks w5 HP5.out.hk HP5.out.own); have k1 : w5.cell? ⟨wi.heap.size, 1, none⟩ = some (.int .i64 C.f1) := (blk_cell HC5.out 1).trans rfl; have hcv5 := (hb5.cell (World.block_lt_of_cell? _ _ hcv)).trans hcv; clear hb5) | (go_at_call 52; refine Hp1.out.mono ?_; clear Hp1; rintro e w8 ⟨z, rfl, hz, rfl⟩; obtain ⟨k, rfl, hkk⟩ := place_in hz hf1.out; have HKK := Aside0.mk hkk; clear hz hkk))
                      have hpl : p.length ≤ 10000 := by have := HPj.out.len _ _ HBp.out; have := hkl.out; have := HL.out; omega
                      refine way_region ⟨w8, w3.heap.size, ks.length, wi.heap.size, gv, cv, p, C, i⟩ w.heap.size _ _ rfl rfl rfl rfl hcv5 HO5.out HC5.out hil (by show p.length ≤ 100000; omega) ?_
                      intro vs w7 hb7 ho7
                      replace hb7 : Below w8.heap.size w8 w7 := hb7
                      replace ho7 : w7.ownsRow w8.heap.size 3 1 (vs 9) (p.length + 1) (intsV (p ++ [C.f1])) := ho7
                      obtain ⟨m, hm⟩ : ∃ m, m = (p ++ [C.f1]).length := ⟨_, rfl⟩
                      have hm1 : m = p.length + 1 := by rw [hm]; simp
                      rw [← hm1] at ho7
                      obtain ⟨gw, cw, hvw⟩ := own_form ho7 (by omega)
                      rw [hvw] at ho7
                      have HP7 := Aside0.mk (HP5.out.step hb7)
                      have HW7 := Aside0.mk (own_base ho7 HP5.out.below.size)
                      clear ho7 hb7
                      generalize hLt : layF _ _ _ vs = LL
                      obtain rfl : LL = [.int .i64 root, .int .i64 key, .slice (some ad) l.length c, undef, undef, undef, .slice none 0 0, .int .i64 0, .pointer (some ⟨w1.heap.size, 0, none⟩), .int .i64 0, .func (Fn.func 52) #[] #[.pointer (some ⟨w1.heap.size, 0, none⟩)], .slice (some ⟨w3.heap.size, 0, none⟩) ks.length ks.length, undef, .pointer (some ⟨wi.heap.size, 0, none⟩), .int .i64 i, .int .i64 k, vs 9, .tuple #[.slice A1 ks.length c1, .int .i64 0], .int .i64 root, .slice (some ad) l.length c, .tuple #[.slice A1 ks.length c1, .int .i64 0], .slice A1 ks.length c1, .int .i64 0, .int .i64 0, .bool false, undef, .int .i64 key, .bool true, .bool false, .func (Fn.func 52) #[] #[.pointer (some ⟨w1.heap.size, 0, none⟩)], .func (Fn.func 52) #[] #[.pointer (some ⟨w1.heap.size, 0, none⟩)], .int .i64 key, .int .i64 i0, .bool (decide ((i0 : Int) < 0)), .slice A1 ks.length c1, .int .i64 ks.length, .slice (some ⟨w3.heap.size, 0, none⟩) ks.length ks.length, .slice (some ⟨w3.heap.size, 0, none⟩) ks.length ks.length, .func (Fn.func 52) #[] #[.pointer (some ⟨w1.heap.size, 0, none⟩)], .int .i64 root, .int .i64 ir, .int .i64 root, .slice (some ⟨w3.heap.size + 1, 0, none⟩) 1 1, .pointer (some ⟨w3.heap.size, ir, none⟩), .slice A1 ks.length c1, .int .i64 ks.length, .int .i64 n, .bool true, .slice (some ad) l.length c, .int .i64 l.length, .int .i64 j, .bool true, .pointer (some (ad.add (j * 4))), .agg #[.int .i64 C.f0, .int .i64 C.f1, .int .i64 C.f2.f0, .int .i64 C.f2.f1], .func (Fn.func 52) #[] #[.pointer (some ⟨w1.heap.size, 0, none⟩)], .pointer (some ⟨wi.heap.size, 0, none⟩), .int .i64 C.f0, .int .i64 i, .int .i64 i, .bool false, .bool false, .slice (some ⟨w3.heap.size, 0, none⟩) ks.length ks.length, .int .i64 i, .pointer (some ⟨w3.heap.size, i, none⟩), .slice (some ⟨gv, 0, none⟩) p.length cv, .bool false, .bool false, .bool false, .agg #[.int .i64 C.f0, .int .i64 C.f1, .int .i64 C.f2.f0, .int .i64 C.f2.f1], .int .i64 0, .bool false, .bool false, .func (Fn.func 52) #[] #[.pointer (some ⟨w1.heap.size, 0, none⟩)], .pointer (some ⟨wi.heap.size, 1, none⟩), .int .i64 C.f1, .int .i64 k, vs 0, vs 1, vs 2, vs 3, vs 4, vs 5, vs 6, vs 7, vs 8, u85, u86, u87, u88, u89, u90, u91, u92, u93, u94, u95, u96, u97, u98, u99, u100, u101, u102, u103, u104, u105, u106, u107, u108, u109, u110, u111, u112, u113, u114, u115, u116, u117, u118, u119, u120, u121, u122, u123, undef, undef, undef, undef, undef, undef] := hLt.symm
                      clear hLt
                      rw [hvw]
                      clear hvw
                      obtain ⟨v1, hv1, hr1⟩ := HP7.out.at_ HKK.out
                      have hfz := HP7.out.frz k
                      have hkl2 := (List.getElem?_eq_some_iff.1 HKK.out).1
                      have p4 : (0 : Int) ≤ (k : Int) := Int.natCast_nonneg _
                      have q4 : (k : Int) < (ks.length : Int) := Int.ofNat_lt.2 hkl2
                      have HM := Aside0.mk hm
                      have hput : Aside0 (∀ w9, PInv w w9 ks w1.heap.size w3.heap.size (.slice A1 ks.length c1) b (1 + n * 61 + j) → w9.ownsRow w.heap.size 3 1 (.slice (some ⟨gw, 0, none⟩) m cw) m (intsV (p ++ [C.f1])) → PInv w (w9.setCell ⟨w3.heap.size, k, none⟩ (.slice (some ⟨gw, 0, none⟩) m cw)) ks w1.heap.size w3.heap.size (.slice A1 ks.length c1) (put b C.f1 (p ++ [C.f1])) (1 + n * 61 + (j + 1))) := ⟨fun w9 h9 ho9 => h9.put_ hnd.out HKK.out (by simp) (by rw [← HM.out]; exact ho9) (by have := HPj.out.len _ _ HBp.out; rw [← HM.out]; omega)⟩
                      cases hbq : b C.f1 with
                      | none =>
                        rw [hbq] at hr1
                        obtain rfl := row_none hr1
                        have hR := Aside0.mk (relax_new (e := (C.f0, C.f1)) HBp.out hbq)
                        clear hr1 hbq hm hm1 hpl
                        go_wp2
                        go_roundw
                        case rel => exact ⟨_, _, _, _, .int .i64 ((j : Int) + 1), ⟨j + 1, by simp, ⟨hjt⟩, _, ⟨by rw [hfold.out, hR.out]⟩, ⟨hput.out _ HP7.out HW7.out⟩⟩, rfl, rfl, rfl, rfl, rfl⟩
                        case measure => simp [intOf]; omega
                      | some q =>
                        rw [hbq] at hr1
                        obtain ⟨hqn, hoq⟩ := row_some hr1
                        obtain ⟨gq, cq, rfl⟩ := own_form hoq (fun h => hqn (List.eq_nil_of_length_eq_zero h))
                        have hR := Aside0.mk (relax_old (e := (C.f0, C.f1)) HBp.out hbq)
                        have HOq := Aside0.mk hoq
                        have hbet : better (p ++ [C.f1]) q = (decide (m < q.length) || (decide (m = q.length) && lexlt (p ++ [C.f1]) q)) := by rw [hm]; rfl
                        rcases Nat.lt_trichotomy m q.length with hlt | heq | hgt
                        · have hB : Aside0 (better (p ++ [C.f1]) q = true) := ⟨by rw [hbet, decide_eq_true hlt]; rfl⟩
                          have e1 : decide ((m : Int) < (q.length : Int)) = true := decide_eq_true (by omega)
                          have e1n : decide (m < q.length) = true := decide_eq_true (by omega)
                          have e1p : (m : Int) < (q.length : Int) := by omega
                          clear hr1 hbq hm hm1 hpl hbet hoq hqn hlt
                          go_wp2
                          go_roundw
                          case rel => exact ⟨_, _, _, _, .int .i64 ((j : Int) + 1), ⟨j + 1, by simp, ⟨hjt⟩, _, ⟨by rw [hfold.out, hR.out, if_pos hB.out]⟩, ⟨hput.out _ HP7.out HW7.out⟩⟩, rfl, rfl, rfl, rfl, rfl⟩
                          case measure => simp [intOf]; omega
                        · have hB : Aside0 (better (p ++ [C.f1]) q = lexlt (p ++ [C.f1]) q) := ⟨by rw [hbet, decide_eq_true heq, decide_eq_false (by omega)]; rfl⟩
                          have e1 : decide ((m : Int) < (q.length : Int)) = false := decide_eq_false (by omega)
                          have e1n : decide (m < q.length) = false := decide_eq_false (by omega)
                          have e1p : ¬ (m : Int) < (q.length : Int) := by omega
                          have e1q : ¬ m < q.length := by omega
                          have e2 : ((m : Int) == (q.length : Int)) = true := beq_iff_eq.mpr (by omega)
                          have e3 : (m == q.length) = true := beq_iff_eq.mpr heq
                          have e4 : decide ((m : Int) = (q.length : Int)) = true := decide_eq_true (by omega)
                          have e5 : decide (m = q.length) = true := decide_eq_true (by omega)
                          have HLs := Aside0.mk (less_walk (w := w7) (a := p ++ [C.f1]) (b := q) (hm.symm.trans heq) (by rw [← hm]; omega) (by rw [← hm]; exact HW7.out) hoq)
                          cases hlx : lexlt (p ++ [C.f1]) q with
                          | true =>
                            rw [hlx] at HLs hB
                            clear hr1 hbq hm hm1 hpl hbet hoq hqn heq hlx
                            go_wp2_with (go_at_call 53; refine HLs.out.mono ?_; clear HLs; rintro e w10 ⟨rfl, hd⟩; have HP8 := Aside0.mk (HP7.out.step hd.below); have HW8 := Aside0.mk (pw_own_below HW7.out hd.below); obtain ⟨v2, hv2, _⟩ := HP8.out.at_ HKK.out; have hfz2 := HP8.out.frz k; clear hd)
                            go_roundw
                            case rel => exact ⟨_, _, _, _, .int .i64 ((j : Int) + 1), _, _, _, _, _, _, _, _, _, _, _, _, _, _, _, _, _, _, _, _, _, _, _, _, _, _, _, _, _, _, _, _, _, _, _, _, _, _, _, _, _, _, _, _, _, _, _, _, _, _, _, _, _, _, _, _, _, _, _, _, _, _, _, _, _, _, _, _, _, _, _, _, ⟨j + 1, _, by simp, ⟨hjt⟩, ⟨by rw [hfold.out, hR.out, if_pos hB.out]⟩, ⟨hput.out _ HP8.out HW8.out⟩⟩, rfl⟩
                            case measure => simp [intOf]; omega
                          | false =>
                            rw [hlx] at HLs hB
                            clear hr1 hbq hm hm1 hpl hbet hoq hqn heq hlx
                            go_wp2_with (go_at_call 53; refine HLs.out.mono ?_; clear HLs; rintro e w10 ⟨rfl, hd⟩; have HP8 := Aside0.mk (HP7.out.step hd.below); clear hd)
                            go_roundw
                            case rel => exact ⟨_, _, _, _, .int .i64 ((j : Int) + 1), _, _, _, _, _, _, _, _, _, _, _, _, _, _, _, _, _, _, _, _, _, _, _, _, _, _, _, _, _, _, _, _, _, _, _, _, _, _, _, _, _, _, _, _, _, _, _, _, _, _, _, _, _, _, _, _, _, _, _, _, _, _, _, _, _, _, _, _, _, _, _, _, ⟨j + 1, _, by simp, ⟨hjt⟩, ⟨by rw [hfold.out, hR.out, if_neg (by rw [hB.out]; simp)]⟩, ⟨HP8.out.more (by omega)⟩⟩, rfl⟩
                            case measure => simp [intOf]; omega
                        · have hB : Aside0 (better (p ++ [C.f1]) q = false) := ⟨by rw [hbet, decide_eq_false (by omega), decide_eq_false (by omega)]; rfl⟩
                          have e1 : decide ((m : Int) < (q.length : Int)) = false := decide_eq_false (by omega)
                          have e1n : decide (m < q.length) = false := decide_eq_false (by omega)
                          have e1p : ¬ (m : Int) < (q.length : Int) := by omega
                          have e1q : ¬ m < q.length := by omega
                          have e2 : ((m : Int) == (q.length : Int)) = false := beq_eq_false_iff_ne.mpr (by omega)
                          have e3 : (m == q.length) = false := beq_eq_false_iff_ne.mpr (by omega)
                          have e4 : decide ((m : Int) = (q.length : Int)) = false := decide_eq_false (by omega)
                          have e5 : decide (m = q.length) = false := decide_eq_false (by omega)
                          have e6 : ¬ m = q.length := by omega
                          clear hr1 hbq hm hm1 hpl hbet hoq hqn hgt
                          go_wp2
                          go_roundw
                          case rel => exact ⟨_, _, _, _, .int .i64 ((j : Int) + 1), ⟨j + 1, by simp, ⟨hjt⟩, _, ⟨by rw [hfold.out, hR.out, if_neg (by rw [hB.out]; simp)]⟩, ⟨HP7.out.more (by omega)⟩⟩, rfl, rfl, rfl, rfl, rfl⟩
                          case measure => simp [intOf]; omega
                    · have hS := Aside0.mk (hsk.out (fun h => absurd h hg0))
                      have hgb : (goodC C == 0) = false := beq_eq_false_iff_ne.mpr hg0
                      have hgb2 : (goodC C != 0) = true := bne_iff_ne.mpr hg0
                      clear hg0
                      go_wp2_with (first | (go_at_call 52; refine Hp0.out.mono ?_; clear Hp0; rintro e w8 ⟨z, rfl, hz, rfl⟩; obtain ⟨i, rfl, hii⟩ := place_in hz HC0.out; obtain ⟨v, hcv, hrv⟩ := HPa.out.at_ hii; rw [HBp.out] at hrv; have HOv := Aside0.mk (row_some hrv); obtain ⟨gv, cv, rfl⟩ := own_form (row_some hrv).2 (fun h => (row_some hrv).1 (List.eq_nil_of_length_eq_zero h)); have hil := (List.getElem?_eq_some_iff.1 hii).1; have p3 : (0 : Int) ≤ (i : Int) := Int.natCast_nonneg i; have q3 : (i : Int) < (ks.length : Int) := Int.ofNat_lt.2 hil; have d3 : decide ((i : Int) < 0) = false := decide_eq_false (by omega); have HII := Aside0.mk hii; clear hz hrv hii) | (go_at_call 31; refine (HW31.out _).mono ?_; clear HW31; rintro e w5 ⟨rfl, hb5⟩; have HP5 := Aside0.mk (HPa.out.step hb5); clear hb5))
                      go_roundw
                      case rel => exact ⟨j + 1, b, by simp, ⟨hjt⟩, ⟨hS.out.symm⟩, ⟨HP5.out.more (by omega)⟩⟩
                      case measure => simp [intOf]; omega
                · have hS := Aside0.mk (hsk.out (fun _ => HPj.out.out _ c0))
                  have HC0 := Aside0.mk c0
                  clear c0
                  go_wp2_with (go_at_call 52; refine Hp0.out.mono ?_; clear Hp0; rintro e w8 ⟨z, rfl, hz, rfl⟩; obtain rfl := place_out hz HC0.out; clear hz)
                  go_roundw
                  case rel => exact ⟨j + 1, b, by simp, ⟨hjt⟩, ⟨hS.out.symm⟩, ⟨HPa.out.more (by omega)⟩⟩
                  case measure => simp [intOf]; omega
              · obtain rfl : j = l.length := by omega
                have hE : Aside0 (b = brounds (edges l) (n + 1) (best0 root)) := ⟨by rw [hb.out, hb0.out, List.take_length]; rfl⟩
                go_wp2
                go_roundw
                case rel => exact ⟨n + 1, b, by simp, ⟨hnt⟩, hE, ⟨HPj.out.more (by have := HL.out; omega)⟩⟩
                case measure => simp [intOf]; omega
          · obtain rfl : n = ks.length := by omega
            have Hp0 := Aside0.mk (place_walk key _ _ _ ks wr HP0.out.hk HP0.out.own)
            go_wp2_with (go_at_call 52; refine Hp0.out.mono ?_; clear Hp0; rintro e w8 ⟨z, rfl, hz, rfl⟩; obtain ⟨i, rfl, hii⟩ := place_in hz HIn.out; obtain ⟨v, hcv, hrv⟩ := HP0.out.at_ hii; have HRv := Aside0.mk hrv; have hil := (List.getElem?_eq_some_iff.1 hii).1; have p3 : (0 : Int) ≤ (i : Int) := Int.natCast_nonneg i; have q3 : (i : Int) < (ks.length : Int) := Int.ofNat_lt.2 hil; clear hz hrv hii)
            go_ret2
            refine ⟨v, ?_, ?_, HP0.out.below⟩
            · rw [HP.out.1]; rfl
            · rw [HP.out.2, ← hb0.out]
              rcases HRv.out with ⟨e, rfl⟩ | ⟨p, e, _, ho⟩
              · rw [e]; exact World.ownsRow_nil _ _ _ _
              · rw [e]; exact ho
      · have hpz : pathZ root key l = 8 := by unfold pathZ; rw [if_pos HZ.out, if_pos HPb.out, ← HKs.out, if_neg hin]
        have hpl : pathL root key l = [] := by unfold pathL; rw [hpz]; rfl
        have HP := Aside0.mk (And.intro hpz hpl)
        have HIn := Aside0.mk hin
        clear hin hpz hpl
        go_enter Try.func33, Try.ntmps33
        go_wp2_with (first | (go_at_call 36; refine HRc.out.mono ?_; clear HRc; rintro e w1 ⟨v1, rfl, ho1, hb1⟩; have HO1 := Aside0.mk ho1; have HB1 := Aside0.mk hb1; clear ho1 hb1; obtain ⟨A1, c1, rfl⟩ := own_slice HO1.out) | (go_at_call 47; refine (HK.out _).mono ?_; clear HK; rintro e w2 ⟨rfl, hd⟩; have HB2 := Aside0.mk hd.below; clear hd; have hg8 := Aside0.mk (blk_below (blk_new w1 (.cells #[.slice A1 ks.length c1] 24)) HB2.out); have HO2 := Aside0.mk (pw_own_below (HO1.out.alloc (.cells #[.slice A1 ks.length c1] 24)) HB2.out); have HPl := Aside0.mk (place_walk key _ _ _ ks w2 hg8.out HO2.out)) | (go_at_call 52; refine HPl.out.mono ?_; clear HPl; rintro e w3 ⟨z, rfl, hz, rfl⟩; obtain rfl := place_out hz HIn.out; clear hz))
        go_ret2
        refine ⟨nilS, ?_, ?_, below_step (below_alloc HB1.out _) HB2.out⟩
        · rw [HP.out.1]; rfl
        · rw [HP.out.2]; exact World.ownsRow_nil _ _ _ _
  · have hr : Aside0 (pathZ root key l = faultZ root l ∧ pathL root key l = []) := ⟨by unfold pathZ; rw [if_neg hz], by unfold pathL pathZ; rw [if_neg hz, if_neg hz]⟩
    have HZ : Aside0 ((faultZ root l != 0) = true) := ⟨bne_iff_ne.mpr hz⟩
    clear hz
    unfold ReachPost at HRc
    go_enter Try.func33, Try.ntmps33
    go_wp2_with (first | (go_at_call 36; refine HRc.out.mono ?_; clear HRc; rintro e w1 ⟨v1, rfl, ho1, hb1⟩; have HO1 := Aside0.mk ho1; have HB1 := Aside0.mk hb1; clear ho1 hb1; obtain ⟨A1, c1, rfl⟩ := own_slice HO1.out; have HZ := HZ.out))
    go_ret2
    refine ⟨nilS, ?_, ?_, below_alloc HB1.out _⟩
    · rw [hr.out.1]; rfl
    · rw [hr.out.2]; exact World.ownsRow_nil _ _ _ _
end Go.Proofs.Ytjceapbbapofmaa.Q
