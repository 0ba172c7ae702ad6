/- trust.Path, walked. -/
import Derived.Test.YtjceapbbapofmaaPlPt
import Derived.Test.YtjceapbbapofmaaPureTrustReaches
import Derived.Test.YtjceapbbapofmaaPTrustPathsx8
namespace Go.Proofs.Ytjceapbbapofmaa.Q
open Go.RowKit Go.Maps Go.Sort Go.Shelf Go.Proofs.Ytjceapbbapofmaa.Pure Go.Proofs.Ytjceapbbapofmaa.PTrustPaths Go.Proofs.Ytjceapbbapofmaa.PgTrust Go.Proofs.Ytjceapbbapofmaa.Trust Go.Proofs.Ytjceapbbapofmaa.FnsTrustPaths Go.Proofs.Ytjceapbbapofmaa.SignMath Go.Proofs.YtjceapbbapofmaaW.PrintWords Go.Proofs.YtjceapbbapofmaaW.PrintLast Go.Proofs.YtjceapbbapofmaaW.PrintMore
set_option linter.unusedVariables false
set_option linter.unusedSimpArgs false
/-! ### slices.Reverse -/
theorem rev_l0 (l : List Int) (hl : l.length ≤ 9223372036854775807) : ∀ (m i : Nat) (x : List Int) (j : Int), x.length = l.length → j = (l.length : Int) - 1 - i → l.length - 2 * i ≤ m → 2 * i ≤ l.length →
    (∀ p, p < l.length → x[p]? = if (p < i ∨ (j < (p : Int))) then l[l.length - 1 - p]? else l[p]?) → slices_Reverse_int_int.l0 (m + 1) x (i : Int) j = some l.reverse := by
  intro m
  induction m with
  | zero =>
    intro i x j hx hj hm hi h
    unfold slices_Reverse_int_int.l0
    rw [if_neg (by omega)]
    congr 1
    apply List.ext_getElem?
    intro p
    rcases Nat.lt_or_ge p l.length with hp | hp
    · rw [h p hp, List.getElem?_reverse hp, if_pos (by omega)]
    · rw [List.getElem?_eq_none (by omega), List.getElem?_eq_none (by simpa using hp)]
  | succ m ih =>
    intro i x j hx hj hm hi h
    unfold slices_Reverse_int_int.l0
    by_cases hlt : (i : Int) < j
    · rw [if_pos hlt, if_pos (by omega), if_pos (by omega), if_pos (by omega), if_pos (by omega), wrap_in (by omega) (by omega), wrap_in (by omega) (by omega)]
      have hjn : ∃ jn : Nat, j = (jn : Int) := ⟨j.toNat, by omega⟩
      obtain ⟨jn, rfl⟩ := hjn
      refine ih (i + 1) _ _ (by simp [hx]) (by omega) (by omega) (by omega) fun p hp => ?_
      have gi : YtjceapbbapofmaaW.PrintWords.rd x ((i : Nat) : Int) = (l[i]?).getD 0 := by
        unfold YtjceapbbapofmaaW.PrintWords.rd
        rw [Int.toNat_natCast, List.getD_eq_getElem?_getD, h i (by omega), if_neg (by omega)]
      have gj : YtjceapbbapofmaaW.PrintWords.rd x ((jn : Nat) : Int) = (l[jn]?).getD 0 := by
        unfold YtjceapbbapofmaaW.PrintWords.rd
        rw [Int.toNat_natCast, List.getD_eq_getElem?_getD, h jn (by omega), if_neg (by omega)]
      rw [gi, gj, Int.toNat_natCast, Int.toNat_natCast]
      by_cases e1 : p = jn
      · subst e1
        rw [List.getElem?_set_self (by simp; omega), if_pos (by omega), List.getElem?_eq_getElem (i := i) (by omega), show l.length - 1 - p = i from by omega, List.getElem?_eq_getElem (by omega)]
        rfl
      · rw [List.getElem?_set_ne (Ne.symm e1)]
        by_cases e2 : p = i
        · subst e2
          rw [List.getElem?_set_self (by omega), if_pos (by omega), List.getElem?_eq_getElem (i := jn) (by omega), show l.length - 1 - p = jn from by omega, List.getElem?_eq_getElem (by omega)]
          rfl
        · rw [List.getElem?_set_ne (Ne.symm e2), h p hp]
          by_cases c : p < i ∨ (jn : Int) < (p : Int)
          · rw [if_pos c, if_pos (by omega)]
          · rw [if_neg c, if_neg (by omega)]
    · rw [if_neg hlt]
      congr 1
      apply List.ext_getElem?
      intro p
      rcases Nat.lt_or_ge p l.length with hp | hp
      · rw [h p hp, List.getElem?_reverse hp]
        by_cases c : p < i ∨ j < (p : Int)
        · rw [if_pos c]
        · rw [if_neg c, show l.length - 1 - p = p from by omega]
      · rw [List.getElem?_eq_none (by omega), List.getElem?_eq_none (by simpa using hp)]
theorem rev_f (l : List Int) (hl : l.length ≤ 9223372036854775807) : slices_Reverse_int_int.f (l.length + 1) l = some l.reverse := by
  unfold slices_Reverse_int_int.f
  rw [wrap_in (by omega) (by omega)]
  exact rev_l0 l hl l.length 0 l _ rfl (by omega) (by omega) (by omega) fun p hp => by rw [if_neg (by omega)]
theorem rev_walk {w : World} {v : Value} {l : List Int} (w0 : World) (hB : Below w0.heap.size w0 w) (h : w.ownsRow w0.heap.size 3 1 v l.length (intsV l)) :
    Calls Try.prog 51 #[v] w fun e w' => e = .returned (.tuple #[]) ∧ w'.ownsRow w0.heap.size 3 1 v l.reverse.length (intsV l.reverse) ∧ Below w0.heap.size w0 w' := by
  have hR : Kd.R (Kd.int .i64) 3 w w0.heap.size (fun _ => True) v l := Kd.R_of_own h (fun _ _ => trivial)
  refine (slices_Reverse_int_int.calls (l.length + 1) (fun _ => True) v l l.reverse w0 w hB hR (rev_f l (by have := own_max h; omega))).mono ?_
  rintro e w' ⟨rfl, hr, hb, _⟩
  exact ⟨rfl, Kd.own_of_R hr, hb⟩
/-! ### what both tell -/
noncomputable def pathZ (root key : Int) (l : List S52) : Int := if faultZ root l = 0 then (if isPub key = true then (if key ∈ reachL root l then 0 else 8) else 2) else faultZ root l
noncomputable def pathL (root key : Int) (l : List S52) : List Int := if pathZ root key l = 0 then (brounds (edges l) (reachL root l).length (best0 root) key).getD [] else []
def PathPost (w : World) (l : List S52) (root key : Int) (e : Ending) (w' : World) : Prop := ∃ v, e = .returned (.tuple #[v, .int .i64 (pathZ root key l)]) ∧ w'.ownsRow w.heap.size 3 1 v (pathL root key l).length (intsV (pathL root key l)) ∧ Below w.heap.size w w'
theorem rfS_sort (l : List S52) (k : Int) : (rfS l k).Pairwise (· ≤ ·) := by
  have h := List.pairwise_mergeSort (le := fun x y : Int => decide (x ≤ y)) (fun a b c h1 h2 => by simp at h1 h2 ⊢; omega) (fun a b => by simp; omega) (rfU l k)
  exact h.imp fun h => by simpa using h
theorem keys_reach {root : Int} {l : List S52} {R : List (Int × Int)} (hz : faultZ root l = 0) (h : Lev (edges l) (rfS l) root R []) (k : Int) : k ∈ keysF R ↔ k ∈ reachL root l := by
  unfold reachL
  rw [if_pos hz, lev_end (fun k t he => mem_rfS.2 he) h, rounds_mem]
theorem reach_nodup (root : Int) (l : List S52) : (reachL root l).Nodup := by
  unfold reachL
  split
  · exact up_nodup (rounds_end (edges l).length [root] (rnd_start _ _)).1.up
  · simp
set_option maxRecDepth 100000 in
set_option maxHeartbeats 8000000 in
theorem path_walk (root key : Int) (hroot : (Lit.int .i64 root).wf = true) (hkey : (Lit.int .i64 key).wf = true) (l : List S52) (hw : ∀ c ∈ l, (Lit.int .i64 c.f0).wf = true ∧ (Lit.int .i64 c.f1).wf = true) (A : Option Addr) (c : Nat) (hc : l.length ≤ c) (w : World) (hC : Kd.C k52 w A l.length l) :
    Calls Try.prog 32 #[.int .i64 root, .int .i64 key, .slice A l.length c] w (PathPost w l root key) := by
  obtain ⟨i3, hi3, hz0, hz1, hz2⟩ := info_parts info3
  have HF := Aside0.mk (fault_walk root l A c hc w hC)
  by_cases hz : faultZ root l = 0
  · have hl : l.length ≤ 60 := by
      unfold faultZ at hz
      by_cases h : l.length > 60
      · rw [if_pos h] at hz; cases hz
      · omega
    have HZ := Aside0.mk hz
    have HC := Aside0.mk hC
    have HWr := Aside0.mk hroot
    have HWk' := Aside0.mk hkey
    have HWl := Aside0.mk hw
    rw [hz] at HF
    have HK : Aside0 (∀ w1, Calls Try.prog 45 #[.int .i64 key] w1 fun e w' => e = .returned (.bool (isPub key)) ∧ Drawn0 w1 w') := ⟨fun w1 => key_walk key w1⟩
    cases hp : isPub key with
    | false =>
      have hpz : pathZ root key l = 2 := by unfold pathZ; rw [if_pos hz, if_neg (by rw [hp]; simp)]
      have hpl : pathL root key l = [] := by unfold pathL; rw [hpz]; rfl
      have HP := Aside0.mk (And.intro hpz hpl)
      rw [hp] at HK
      clear hz hpz hpl hC
      go_enter Try.func32, Try.ntmps32
      go_wp2_with (first | (go_at_call 49; refine HF.out.mono ?_; clear HF; rintro e w1 ⟨rfl, hd⟩; have HB1 := Aside0.mk hd.below; clear hd) | (go_at_call 45; refine (HK.out w1).mono ?_; rintro e w2 ⟨rfl, hd⟩; have HB2 := Aside0.mk hd.below; clear hd))
      go_ret2
      refine ⟨nilS, ?_, ?_, below_step HB1.out HB2.out⟩
      · rw [HP.out.1]; rfl
      · rw [HP.out.2]; exact World.ownsRow_nil _ _ _ _
    | true =>
      rw [hp] at HK
      have HPb := Aside0.mk hp
      clear hz hp hC
      go_enter Try.func32, Try.ntmps32
      go_upto_region 7 with (first | (go_at_call 49; refine HF.out.mono ?_; clear HF; rintro e w1 ⟨rfl, hd⟩; have HB1 := Aside0.mk hd.below; clear hd) | (go_at_call 45; refine (HK.out w1).mono ?_; rintro e w2 ⟨rfl, hd⟩; have HB2 := Aside0.mk hd.below; have HWk := Aside0.mk (walk_walk root HWr.out l hl HWl.out A c w2 (Kd.C_below (Kd.C_below HC.out HB1.out) HB2.out)); clear hd) | (go_at_call 50; refine HWk.out.mono ?_; rintro e w3 ⟨b, n, D, R, rfl, hF, hFin, hLev, hn, hB3⟩; have HF3 := Aside0.mk hF; have HFin := Aside0.mk hFin; have HLev := Aside0.mk hLev; have HB3 := Aside0.mk hB3; clear hF hFin hLev hn hB3))
      obtain ⟨P, hWy, hNd⟩ := fin_ways (fun k t => mem_rfS) (rfS_sort l) 63 _ _ 0 _ HFin.out (linv_start (edges l) root)
      have HWy := Aside0.mk hWy
      have HNd := Aside0.mk hNd
      clear hWy hNd
      have hkr := keys_reach HZ.out HLev.out key
      by_cases hin : key ∈ keysF R
      · have hhas : Maps.has D (keyL key) = true := by rw [HF3.out.isIn key]; exact decide_eq_true hin
        have hpz : pathZ root key l = 0 := by unfold pathZ; rw [if_pos HZ.out, if_pos HPb.out, if_pos (hkr.1 hin)]
        have hlen : (keysF R).length ≤ (reachL root l).length + 1 := by have := nodup_le HNd.out (fun k hk => (keys_reach HZ.out HLev.out k).1 hk); omega
        have hpl : pathL root key l = P key := by unfold pathL; rw [if_pos hpz, path_eq HWy.out hlen hin]; rfl
        have hPk : (P key).length ≤ 61 := by
          have h1 := HWy.out.nodup key hin
          have h2 := nodup_le h1.1 h1.2
          have h3 := nodup_le HNd.out (fun k hk => (keys_reach HZ.out HLev.out k).1 hk)
          have h4 := reachL_len root l
          omega
        have HP := Aside0.mk (And.intro hpz hpl)
        have HPk := Aside0.mk hPk
        have HIn := Aside0.mk hin
        have HH := Aside0.mk hhas
        clear hin hhas hpz hlen hpl hPk hkr
        go_wp2_with (at_lookup; refine wpList_lookup_own_ok_int _ rfl _ _ 80 rfl 3 3 .i64 K3 Try.underlying80 Try.underlying3 (zero3 _) b n D rfl HF3.out.map _ _ rfl (keyOf_int_mk Try.underlying3 HWk'.out) ?_; intro cc hat hwc; rw [HH.out]; clear hat hwc)
        have HO0 := Aside0.mk (own_new (x := key) (Nat.le_trans (Nat.le_trans HB1.out.size HB2.out.size) HB3.out.size))
        have HBa := Aside0.mk (below_alloc (below_step (below_step HB1.out HB2.out) HB3.out) (.cells #[.int .i64 key] 3))
        have HFa := Aside0.mk (HF3.out.kept (World.grownBy_alloc w3 (.cells #[.int .i64 key] 3) none) (by simp))
        go_loopg [1, 12] (P key).length (fun m v1 v12 wr => ∃ (t : Int) (out sfx : List Int), v1 = .int .i64 t ∧ Aside0 (t ∈ keysF R) ∧ Aside0 ((P t).length = m) ∧ Aside0 (P key = P t ++ sfx) ∧ Aside0 (out.reverse = t :: sfx) ∧ Aside0 (FAt wr b n D R) ∧ Aside0 (wr.ownsRow w.heap.size 3 1 v12 out.length (intsV out)) ∧ Aside0 (Below w.heap.size w wr))
        case atStart => exact ⟨key, [key], [], rfl, HIn, ⟨rfl⟩, ⟨by simp⟩, ⟨rfl⟩, HFa, HO0, HBa⟩
        case round =>
          clear HO0 HBa HFa
          obtain ⟨t, out, sfx, rfl, ht, hm, hP, hout, HFr, HO, HBr⟩ := hrel
          obtain ⟨A12, c12, rfl⟩ := own_slice HO.out
          by_cases htr : t = root
          · subst htr
            have hb : (t == t) = true := beq_self_eq_true t
            have hb2 : (t != t) = false := by simp
            have hE : Aside0 (out.reverse = pathL t key l) := ⟨by rw [HP.out.2, hP.out, hout.out, HWy.out.at0]; rfl⟩
            go_wp2_with (go_at_call 51; refine (rev_walk w HBr.out HO.out).mono ?_; rintro e w7 ⟨rfl, ho7, hb7⟩; have HO7 := Aside0.mk ho7; have HB7 := Aside0.mk hb7; clear ho7 hb7)
            go_ret2
            refine ⟨.slice A12 out.length c12, ?_, ?_, HB7.out⟩
            · rw [HP.out.1]; rfl
            · rw [← hE.out]; exact HO7.out
          · cases gk with
            | zero => exact absurd hm.out (by have := wlk_pos (HWy.out.walk t ht.out); omega)
            | succ gn =>
              obtain ⟨q, hq, hq1⟩ := List.mem_map.1 ht.out
              have hfrom := HWy.out.from_ q hq
              rw [hq1] at hfrom
              obtain ⟨hk, hPt⟩ := hfrom.resolve_left htr
              obtain ⟨k, hkk⟩ : ∃ k, k = q.2 := ⟨_, rfl⟩
              rw [← hkk] at hk hPt
              obtain ⟨cc, hrun, hat, _⟩ := HFr.out.map.lookup_int K3 Try.underlying80 Try.underlying3 (zero3 _) (keyOf_int_mk Try.underlying3 (rch_wf HWl.out HWr.out (HLev.out.sound t ht.out)))
              have hat2 := HFr.out.isAt q hq (.lit (.int .i64 0))
              rw [hq1, hat] at hat2
              obtain rfl : cc = k := by rw [hkk]; injection hat2 with h; injection h with _ h
              have HKk := Aside0.mk hk
              have HPt := Aside0.mk hPt
              have hol : Aside0 (out.length ≤ 62) := ⟨by
                have h1 := congrArg List.length hout.out
                have h2 := congrArg List.length hP.out
                rw [List.length_reverse, List.length_cons] at h1
                rw [List.length_append] at h2
                have := HPk.out
                omega⟩
              have hb : (t == root) = false := beq_eq_false_iff_ne.mpr htr
              have hb2 : (t != root) = true := bne_iff_ne.mpr htr
              clear hq hq1 hfrom hk hPt hkk hat hat2 htr
              go_wp2_with (at_builtin; refine wpList_append_lies _ rfl (.tmp 41) (.tmp 43) 24 rfl w.heap.size 3 i3 (.int .i64 0) 1 8 Try.underlying24 hi3 hz0 hz1 hz2 rfl (by decide) _ _ _ rfl (HO.out.alloc _) ⟨wr.heap.size, 0, none⟩ 1 1 [.int .i64 cc] rfl rfl (news_blk (cs := [.int .i64 cc]) (blk_new wr _)) (one_int cc) (by decide) (by have := hol.out; unfold maxLen; omega) (by have := hol.out; omega) (by have := HBr.out.size; simp; omega) (wr.heap.size + 1) (by simp) ?_; intro g8 c8 w7 ho7 hg7 hat7 _; have HO7 := Aside0.mk ho7; have HG7 := Aside0.mk ((World.grownBy_alloc wr _ _).trans hg7); clear ho7 hg7 hat7)
              go_roundg gn
              case measure => omega
              case rel => exact ⟨cc, out ++ [cc], t :: sfx, rfl, HKk, ⟨by have h := hm.out; rw [HPt.out, List.length_append, List.length_singleton] at h; omega⟩, ⟨by rw [hP.out, HPt.out]; simp⟩, ⟨by rw [List.reverse_append, hout.out]; rfl⟩, ⟨HFr.out.kept HG7.out (own_map HO.out HFr.out.map)⟩, ⟨by simpa [intsV] using HO7.out⟩, ⟨grown_below HBr.out HG7.out (fun k hk => (HO.out.lt k hk).1)⟩⟩
      · have hhas : Maps.has D (keyL key) = false := by rw [HF3.out.isIn key]; exact decide_eq_false hin
        have hpz : pathZ root key l = 8 := by unfold pathZ; rw [if_pos HZ.out, if_pos HPb.out, if_neg (fun h => hin (hkr.2 h))]
        have hpl : pathL root key l = [] := by unfold pathL; rw [hpz]; rfl
        have HP := Aside0.mk (And.intro hpz hpl)
        have HH := Aside0.mk hhas
        clear hin hhas hpz hpl hkr
        go_wp2_with (at_lookup; refine wpList_lookup_own_ok_int _ rfl _ _ 80 rfl 3 3 .i64 K3 Try.underlying80 Try.underlying3 (zero3 _) b n D rfl HF3.out.map _ _ rfl (keyOf_int_mk Try.underlying3 HWk'.out) ?_; intro cc hat hwc; rw [HH.out]; clear hat hwc)
        go_ret2
        refine ⟨nilS, ?_, ?_, below_step (below_step HB1.out HB2.out) HB3.out⟩
        · rw [HP.out.1]; rfl
        · rw [HP.out.2]; exact World.ownsRow_nil _ _ _ _
  · have HZ : Aside0 ((faultZ root l != 0) = true) := ⟨bne_iff_ne.mpr hz⟩
    have hr : Aside0 (pathZ root key l = faultZ root l ∧ pathL root key l = []) := ⟨by unfold pathZ; rw [if_neg hz], by unfold pathL pathZ; rw [if_neg hz, if_neg hz]⟩
    clear hz
    go_enter Try.func32, Try.ntmps32
    go_wp2_with (first | (go_at_call 49; refine HF.out.mono ?_; rintro e w1 ⟨rfl, hd⟩; have HB1 := Aside0.mk hd.below; clear hd; have HZ := HZ.out))
    go_ret2
    refine ⟨nilS, ?_, ?_, HB1.out⟩
    · rw [hr.out.1]; rfl
    · rw [hr.out.2]; exact World.ownsRow_nil _ _ _ _
end Go.Proofs.Ytjceapbbapofmaa.Q
