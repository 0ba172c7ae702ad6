/- wal.Read, wal.Scan, walked. -/
import Derived.Test.YtnjidfgjldkkcaaQWr
import Derived.Test.YtnjidfgjldkkcaaQCb
namespace Go.Proofs.Ytnjidfgjldkkcaa.Q
open Go.RowKit Go.Proofs.YtnjidfgjldkkcaaW.PrintWords Go.Proofs.YtnjidfgjldkkcaaW.PrintLast Go.Proofs.YtnjidfgjldkkcaaW.PrintMore
theorem R_apart {α β : Type} {d : Kd α} {d' : Kd β} {e e' : Nat} {w : World} {b b' : Nat} {ok ok' : Nat → Prop} {v u : Value} {xs : List α} {ys : List β} (h : d.R e w b ok v xs) (hu : d'.R e' w b' ok' u ys) (ht : ∀ q, q ∈ e :: d.E → q ≠ e') : d.R e w b (fun k => ok k ∧ some k ≠ u.ownBlock) v xs := by
  obtain ⟨_, inner, ho, _⟩ := hu
  refine Kd.R_mono (Kd.R_bound h) (fun k hk => ⟨hk.1, fun he => ?_⟩)
  obtain ⟨_, _, _, q, hq, cells, hc⟩ := hk
  obtain ⟨cells', hc'⟩ := own_typed ho k he.symm
  rw [hc] at hc'
  injection hc' with hc'
  injection hc' with _ hc'
  exact ht q hq hc'
def readF (b : List Int) : Nat → List (List (List Int)) → List (List Int) → Nat → Nat → List (List (List Int)) × Nat
  | 0, bs, _, used, _ => (bs, used)
  | f + 1, bs, ba, used, n => if (firstF (b.drop n)).2.2 = 0 then (bs, used)
    else if (firstF (b.drop n)).2.1 = true then readF b f (bs ++ [ba ++ [(firstF (b.drop n)).1]]) [] (n + (firstF (b.drop n)).2.2) (n + (firstF (b.drop n)).2.2)
    else readF b f bs (ba ++ [(firstF (b.drop n)).1]) used (n + (firstF (b.drop n)).2.2)
theorem firstF_wide (b : List Int) : (firstF b).2.2 ≤ b.length := by
  unfold firstF
  by_cases h : (headOk b && sumOk b) = true
  · rw [if_pos h]
    rw [Bool.and_eq_true] at h
    have := h.2
    unfold sumOk at this
    rw [Bool.and_eq_true, decide_eq_true_eq] at this
    exact this.1
  · rw [if_neg h]; exact Nat.zero_le _
theorem firstF_nil : firstF [] = ([], false, 0) := rfl
theorem firstF_rec (b : List Int) : (firstF b).1.length ≤ b.length := by
  unfold firstF
  by_cases h : (headOk b && sumOk b) = true
  · rw [if_pos h]; simp only [List.length_drop, List.length_take]; omega
  · rw [if_neg h]; exact Nat.zero_le _
abbrev kB : Kd (List Int) := Kd.slice 5 (Kd.int .u8)
abbrev kBB : Kd (List (List Int)) := Kd.slice 36 kB
theorem first_walk' (A : Option Addr) (c m : Nat) (b : List Int) (rc : List Int) (last : Bool) (wd : Nat) (w : World) (hr : Kd.C (Kd.int .u8) w A b.length b) (hc : b.length ≤ c) (hl : b.length ≤ 1000000) (hm : b.length = m) (hrr : (rc, last, wd) = firstF b) :
    Calls Try.prog 74 #[.slice A m c] w fun e w' => ∃ A' c', e = .returned (.tuple #[.slice A' rc.length c', .bool last, .int .i64 (wd : Int)]) ∧ rc.length ≤ c' ∧ Kd.C (Kd.int .u8) w A' rc.length rc ∧ Below w.heap.size w w' := by
  subst hm
  have := first_walk A c b w hr hc hl
  rw [← hrr] at this
  exact this
set_option maxRecDepth 100000 in
set_option maxHeartbeats 8000000 in
theorem read_walk (A : Option Addr) (c : Nat) (b : List Int) (w : World) (hr : Kd.C (Kd.int .u8) w A b.length b) (hc : b.length ≤ c) (hl : b.length ≤ 1000000) :
    Calls Try.prog 56 #[.slice A b.length c] w fun e w' => ∃ v, e = .returned (.tuple #[v, .int .i64 ((readF b (b.length + 1) [] [] 0 0).2 : Int)]) ∧ Kd.R kBB 35 w' w.heap.size (fun _ => True) v (readF b (b.length + 1) [] [] 0 0).1 ∧ Below w.heap.size w w' := by
  have HR := Aside0.mk hr
  have HC := Aside0.mk hc
  have HL := Aside0.mk hl
  clear hr hc hl
  go_enter Try.func56, Try.ntmps56
  go_wp2
  go_loopw [2, 3, 4, 5] (fun v2 v3 v4 v5 wr => ∃ (f n used : Nat) (bs : List (List (List Int))) (ba : List (List Int)), v3 = .int .i64 used ∧ v5 = .int .i64 n ∧ Aside0 (n ≤ b.length) ∧ Aside0 (b.length < n + f) ∧ Aside0 (readF b f bs ba used n = readF b (b.length + 1) [] [] 0 0) ∧ Aside0 (bs.length ≤ n) ∧ Aside0 (ba.length ≤ n) ∧ Aside0 (Kd.R kBB 35 wr w.heap.size (fun k => True ∧ some k ≠ v4.ownBlock) v2 bs) ∧ Aside0 (Kd.R kB 36 wr w.heap.size (fun _ => True) v4 ba) ∧ Aside0 (Below w.heap.size w wr)) (fun _ _ _ v5 _ => b.length - (intOf v5).toNat)
  case atStart => exact ⟨b.length + 1, 0, 0, [], [], rfl, rfl, ⟨Nat.zero_le _⟩, ⟨by omega⟩, ⟨rfl⟩, ⟨Nat.zero_le _⟩, ⟨Nat.zero_le _⟩, ⟨Kd.R_nil _ _ _ _ _⟩, ⟨Kd.R_nil _ _ _ _ _⟩, ⟨Below.refl _ _⟩⟩
  case round =>
    obtain ⟨f, n, used, bs, ba, rfl, rfl, hn, hf, hs, hbl, hal, HO2, HO4, HB⟩ := hrel
    have hn' := hn.out
    have hc' := HC.out
    obtain ⟨g, rfl⟩ : ∃ g, f = g + 1 := ⟨f - 1, by have := hf.out; omega⟩
    obtain ⟨r, hrr⟩ : ∃ r, Aside0 (r = firstF (b.drop n)) := ⟨_, ⟨rfl⟩⟩
    have hw := Aside0.mk (firstF_wide (b.drop n))
    have hrc := Aside0.mk (firstF_rec (b.drop n))
    have hlen : Aside0 ((b.drop n).length = b.length - n) := ⟨List.length_drop⟩
    have hstep : Aside0 ((if r.2.2 = 0 then (bs, used) else if r.2.1 = true then readF b g (bs ++ [ba ++ [r.1]]) [] (n + r.2.2) (n + r.2.2) else readF b g bs (ba ++ [r.1]) used (n + r.2.2)) = readF b (b.length + 1) [] [] 0 0) := ⟨by rw [← hs.out, hrr.out]; rfl⟩
    have hD := Aside0.mk (Kd.C_drop (m := n) (c := c) (Kd.C_below HR.out HB.out) hn' hc')
    have hlc : Aside0 (b.length - n ≤ c - n ∧ b.length - n ≤ 1000000) := ⟨by have := HL.out; omega⟩
    by_cases hcn : c = n
    · have hz : Aside0 (r = ([], false, 0)) := ⟨by rw [hrr.out, List.drop_of_length_le (by omega)]; rfl⟩
      rw [if_pos hcn] at hD
      have hex : Aside0 ((bs, used) = readF b (b.length + 1) [] [] 0 0) := ⟨by have := hstep.out; rw [hz.out, if_pos rfl] at this; exact this⟩
      rw [hz.out] at hrr
      go_wp2_with (go_at_call 74; refine (first_walk' A 0 (b.length - n) (b.drop n) [] false 0 _ hD.out (by rw [hlen.out]; omega) (by rw [hlen.out]; exact hlc.out.2) hlen.out hrr.out).mono ?_; rintro e w1 ⟨A', c', rfl, hcr, hCr, hb⟩; have HB1 := Aside0.mk (below_step HB.out hb); have HO21 := Aside0.mk (Kd.R_drop (Kd.R_below HO2.out hb)); clear hcr hCr hb)
      go_ret2
      rw [← hex.out]
      exact ⟨_, rfl, HO21.out, HB1.out⟩
    · rw [if_neg hcn, show (Kd.int .u8).sz = 1 from rfl, Nat.mul_one] at hD
      obtain ⟨rc, last, wd⟩ := r
      by_cases hwd : wd = 0
      · subst hwd
        have hex : Aside0 ((bs, used) = readF b (b.length + 1) [] [] 0 0) := ⟨by have := hstep.out; rw [if_pos rfl] at this; exact this⟩
        go_wp2_with (go_at_call 74; refine (first_walk' (Option.map (fun x => x.add n) A) (c - n) (b.length - n) (b.drop n) rc _ _ _ hD.out (by rw [hlen.out]; exact hlc.out.1) (by rw [hlen.out]; exact hlc.out.2) hlen.out hrr.out).mono ?_; rintro e w1 ⟨A', c', rfl, hcr, hCr, hb⟩; have HB1 := Aside0.mk (below_step HB.out hb); have HO21 := Aside0.mk (Kd.R_below HO2.out hb); have HO41 := Aside0.mk (Kd.R_below HO4.out hb); have HCR := Aside0.mk (Kd.C_below hCr hb); have hcr' := Aside0.mk hcr; clear hcr hCr hb)
        go_ret2
        rw [← hex.out]
        exact ⟨_, rfl, Kd.R_drop HO21.out, HB1.out⟩
      · have hwd' : ((wd : Int) == 0) = false := by simp; omega
        have hrl : Aside0 (rc.length ≤ 1000000000) := ⟨by have h1 := hrc.out; rw [← hrr.out] at h1; replace h1 : rc.length ≤ _ := h1; have := hlen.out; have := HL.out; omega⟩
        have hwb : n + wd ≤ b.length := by have h1 := hw.out; rw [← hrr.out] at h1; replace h1 : wd ≤ _ := h1; have := hlen.out; omega
        have hbm : b.length ≤ 1000000 := HL.out
        cases last
        · have hex : Aside0 (readF b g bs (ba ++ [rc]) used (n + wd) = readF b (b.length + 1) [] [] 0 0) := ⟨by have := hstep.out; rw [if_neg hwd, if_neg (by simp)] at this; exact this⟩
          go_wp2_with (first | (go_at_call 74; refine (first_walk' (Option.map (fun x => x.add n) A) (c - n) (b.length - n) (b.drop n) rc _ _ _ hD.out (by rw [hlen.out]; exact hlc.out.1) (by rw [hlen.out]; exact hlc.out.2) hlen.out hrr.out).mono ?_; rintro e w1 ⟨A', c', rfl, hcr, hCr, hb⟩; have HB1 := Aside0.mk (below_step HB.out hb); have HO21 := Aside0.mk (Kd.R_below HO2.out hb); have HO41 := Aside0.mk (Kd.R_below HO4.out hb); have HCR := Aside0.mk (Kd.C_below hCr hb); have hcr' := Aside0.mk hcr; clear hcr hCr hb) | (go_at_call 58; refine (slices_Clone_byte_byte.calls A' c' rc rc _ HCR.out hcr'.out (by unfold slices_Clone_byte_byte.f; rw [if_pos hrl.out])).mono ?_; rintro e w2 ⟨vc, rfl, hoc, hb2⟩; obtain ⟨Ac, cc, rfl⟩ := Kd.R_slice hoc; have HB2 := Aside0.mk (below_step HB1.out hb2); have HO22 := Aside0.mk (Kd.R_below HO21.out hb2); have HO42 := Aside0.mk (Kd.R_below HO41.out hb2); have HOc := Aside0.mk (Kd.R_lower (Kd.R_mono (ok' := fun k => w1.heap.size ≤ k) (Kd.R_bound hoc) (fun k hk => hk.2.1)) HB1.out.size); have hap : Aside0 (∀ k, w1.heap.size ≤ k → True ∧ some k ≠ u4.ownBlock) := ⟨fun k hk => ⟨trivial, fun he => (by obtain ⟨_, inner, ho, _⟩ := HO41.out; have := own_lt ho k he.symm; omega)⟩⟩; clear hoc hb2) | ((with_reducible refine gate_builtin (b := .append) (xs := #[.tmp 21, .tmp 24]) rfl ?_); at_builtin; refine Kd.R_append kB (w0 := w) w.heap.size rfl (.tmp 21) (.tmp 24) 35 36 (.slice none 0 0) 24 rfl Try.underlying35 info36 rfl (by decide) (by omega) u4 ba rc [.slice Ac rc.length cc] (fun _ => True) (fun k => w1.heap.size ≤ k) rfl rfl ⟨_, rfl, HOc.out⟩ hap.out (fun _ _ => trivial) HO42.out HB2.out (below_size HB2.out) (by have := hal.out; have := HL.out; omega) ?_; intro v4 w3 ho hb hg hat; obtain ⟨A4, c4, rfl⟩ := Kd.R_slice ho; rw [List.length_append, List.length_singleton] at ho hat; have HO43 := Aside0.mk ho; have HB3 := Aside0.mk hb; have HO23 := Aside0.mk (Kd.R_after HO22.out hg hat); clear ho hb hg hat))
          go_roundw
          case rel => exact ⟨g, n + wd, used, bs, ba ++ [rc], rfl, by simp, ⟨hwb⟩, ⟨by have := hf.out; omega⟩, hex, ⟨by have := hbl.out; omega⟩, ⟨by have := hal.out; rw [List.length_append, List.length_singleton]; omega⟩, HO23, HO43, HB3⟩
          case measure => simp [intOf]; omega
        · have hex : Aside0 (readF b g (bs ++ [ba ++ [rc]]) [] (n + wd) (n + wd) = readF b (b.length + 1) [] [] 0 0) := ⟨by have := hstep.out; rw [if_neg hwd, if_pos rfl] at this; exact this⟩
          go_wp2_with (first | (go_at_call 74; refine (first_walk' (Option.map (fun x => x.add n) A) (c - n) (b.length - n) (b.drop n) rc _ _ _ hD.out (by rw [hlen.out]; exact hlc.out.1) (by rw [hlen.out]; exact hlc.out.2) hlen.out hrr.out).mono ?_; rintro e w1 ⟨A', c', rfl, hcr, hCr, hb⟩; have HB1 := Aside0.mk (below_step HB.out hb); have HO21 := Aside0.mk (Kd.R_below HO2.out hb); have HO41 := Aside0.mk (Kd.R_below HO4.out hb); have HCR := Aside0.mk (Kd.C_below hCr hb); have hcr' := Aside0.mk hcr; clear hcr hCr hb) | (go_at_call 58; refine (slices_Clone_byte_byte.calls A' c' rc rc _ HCR.out hcr'.out (by unfold slices_Clone_byte_byte.f; rw [if_pos hrl.out])).mono ?_; rintro e w2 ⟨vc, rfl, hoc, hb2⟩; obtain ⟨Ac, cc, rfl⟩ := Kd.R_slice hoc; have HB2 := Aside0.mk (below_step HB1.out hb2); have HO22 := Aside0.mk (Kd.R_below HO21.out hb2); have HO42 := Aside0.mk (Kd.R_below HO41.out hb2); have HOc := Aside0.mk (Kd.R_lower (Kd.R_mono (ok' := fun k => w1.heap.size ≤ k) (Kd.R_bound hoc) (fun k hk => hk.2.1)) HB1.out.size); have hap : Aside0 (∀ k, w1.heap.size ≤ k → True ∧ some k ≠ u4.ownBlock) := ⟨fun k hk => ⟨trivial, fun he => (by obtain ⟨_, inner, ho, _⟩ := HO41.out; have := own_lt ho k he.symm; omega)⟩⟩; clear hoc hb2) | ((with_reducible refine gate_builtin (b := .append) (xs := #[.tmp 21, .tmp 24]) rfl ?_); at_builtin; refine Kd.R_append kB (w0 := w) w.heap.size rfl (.tmp 21) (.tmp 24) 35 36 (.slice none 0 0) 24 rfl Try.underlying35 info36 rfl (by decide) (by omega) u4 ba rc [.slice Ac rc.length cc] (fun _ => True) (fun k => w1.heap.size ≤ k) rfl rfl ⟨_, rfl, HOc.out⟩ hap.out (fun _ _ => trivial) HO42.out HB2.out (below_size HB2.out) (by have := hal.out; have := HL.out; omega) ?_; intro v4 w3 ho hb hg hat; obtain ⟨A4, c4, rfl⟩ := Kd.R_slice ho; rw [List.length_append, List.length_singleton] at ho hat; have HO43 := Aside0.mk ho; have HB3 := Aside0.mk hb; have HO23 := Aside0.mk (Kd.R_after HO22.out hg hat); clear ho hb hg hat) | ((with_reducible refine gate_builtin (b := .append) (xs := #[.tmp 30, .tmp 32]) rfl ?_); at_builtin; refine Kd.R_append kBB (w0 := w) w.heap.size rfl (.tmp 30) (.tmp 32) 41 35 (.slice none 0 0) 24 rfl Try.underlying41 info35 rfl (by decide) (by omega) u2 bs (ba ++ [rc]) [.slice A4 (ba.length + 1) c4] (fun _ => True) (fun k => True ∧ some k ≠ u2.ownBlock) rfl rfl ⟨_, rfl, R_apart HO43.out HO23.out (by intro q hq; simp [Kd.slice, Kd.int, Kd.scalar] at hq; omega)⟩ (fun k hk => hk) (fun _ _ => trivial) (Kd.R_drop HO23.out) HB3.out (below_size HB3.out) (by have := hbl.out; have := HL.out; omega) ?_; intro v5 w4 ho hb hg hat; have HO24 := Aside0.mk ho; have HB4 := Aside0.mk hb; clear ho hb hg hat))
          go_roundw
          case rel => exact ⟨g, n + wd, n + wd, bs ++ [ba ++ [rc]], [], by simp, by simp, ⟨hwb⟩, ⟨by have := hf.out; omega⟩, hex, ⟨by have := hbl.out; rw [List.length_append, List.length_singleton]; omega⟩, ⟨Nat.zero_le _⟩, ⟨Kd.R_apart_nil HO24.out⟩, ⟨Kd.R_nil _ _ _ _ _⟩, HB4⟩
          case measure => simp [intOf]; omega
def scanF (b : List Int) : List (List (List Int)) × Int × Int := if 1200 < b.length then ([], 0, 1) else ((readF b (b.length + 1) [] [] 0 0).1, ((readF b (b.length + 1) [] [] 0 0).2 : Int), 0)
def wal_Scan.f (b : List Int) : Option (List (List (List Int)) × Int × Int) := some (scanF b)
set_option maxRecDepth 100000 in
set_option maxHeartbeats 8000000 in
theorem wal_Scan.calls (A0 : Option Addr) (c0 : Nat) (l0 : List Int) (r1 : List (List (List Int))) (r2 : Int) (r3 : Int) (w : World) (hr0 : Kd.C (Kd.int .u8) w A0 l0.length l0) (hc0 : l0.length ≤ c0) (h : wal_Scan.f l0 = some (r1, r2, r3)) :
    Calls Try.prog 30 #[.slice A0 l0.length c0] w fun e w' => ∃ v0_ : Value, e = .returned (.tuple #[v0_, .int .i64 r2, .int .i64 r3]) ∧ Kd.R kBB 35 w' w.heap.size (fun _ => True) v0_ r1 ∧ Below w.heap.size w w' := by
  replace h := Option.some.inj h
  unfold scanF at h
  have HR := Aside0.mk hr0
  have HC := Aside0.mk hc0
  clear hr0 hc0
  go_enter Try.func30, Try.ntmps30
  by_cases h1 : 1200 < l0.length
  · rw [if_pos h1] at h
    simp only [Prod.mk.injEq] at h
    obtain ⟨rfl, rfl, rfl⟩ := h
    go_wp2
    go_ret3
    exact ⟨_, rfl, Kd.R_nil _ _ _ _ _, Below.refl _ _⟩
  · rw [if_neg h1] at h
    simp only [Prod.mk.injEq] at h
    obtain ⟨rfl, rfl, rfl⟩ := h
    go_wp2_with (go_at_call 56; refine (read_walk A0 c0 l0 _ HR.out HC.out (by omega)).mono ?_; rintro e w1 ⟨v, rfl, ho, hb⟩; have HO := Aside0.mk ho; have HB := Aside0.mk hb; clear ho hb)
    go_ret3
    exact ⟨_, rfl, HO.out, HB.out⟩
end Go.Proofs.Ytnjidfgjldkkcaa.Q
