/- bagnallref.WalScan, walked to the same plain function as wal.Scan. -/
import Derived.Test.YtnjidfgjldkkcaaQWd
import Derived.Test.YtnjidfgjldkkcaaPlWal
namespace Go.Proofs.Ytnjidfgjldkkcaa.Q
open Go.RowKit Go.Proofs.YtnjidfgjldkkcaaW.PrintWords Go.Proofs.YtnjidfgjldkkcaaW.PrintLast Go.Proofs.YtnjidfgjldkkcaaW.PrintMore Go.Proofs.Ytnjidfgjldkkcaa.Plain
theorem sums_ref (A : Option Addr) (c m : Nat) (l : List Int) (w : World) (hr : Kd.C (Kd.int .u8) w A l.length l) (hc : l.length ≤ c) (hl : l.length ≤ 1000) (hb : ByteL l) (hm : l.length = m) :
    Calls Try.prog 55 #[.slice A m c] w fun e w' => e = .returned (.tuple #[.int .i64 (sumsF 0 0 l).1, .int .i64 (sumsF 0 0 l).2]) ∧ Drawn0 w w' := by
  subst hm
  obtain ⟨k, hk⟩ := (refSum_ev l hb hl).rounds
  exact bagnallref_walSums.calls k A c l _ _ w hr hc hk
theorem rd_drop (b : List Int) (n i : Nat) : rd (b.drop n) (i : Int) = rd b ((n + i : Nat) : Int) := by
  unfold rd
  rw [Int.toNat_natCast, Int.toNat_natCast, List.getD_eq_getElem?_getD, List.getD_eq_getElem?_getD, List.getElem?_drop]
theorem firstF_eq (b : List Int) (n : Nat) (hn : n ≤ b.length) : firstF (b.drop n) =
    if n + 2 ≤ b.length ∧ 1 ≤ rd b (n : Int) ∧ rd b (n : Int) ≤ 60 ∧ rd b ((n + 1 : Nat) : Int) ≤ 1 ∧ n + (rd b (n : Int)).toNat + 4 ≤ b.length ∧ (sumsF 0 0 ((b.take (n + (rd b (n : Int)).toNat + 2)).drop n)).1 % 256 = rd b ((n + (rd b (n : Int)).toNat + 2 : Nat) : Int) ∧ (sumsF 0 0 ((b.take (n + (rd b (n : Int)).toNat + 2)).drop n)).2 % 256 = rd b ((n + (rd b (n : Int)).toNat + 3 : Nat) : Int)
    then ((b.take (n + (rd b (n : Int)).toNat + 2)).drop (n + 2), rd b ((n + 1 : Nat) : Int) == 1, (rd b (n : Int)).toNat + 4) else ([], false, 0) := by
  have e0 : rd (b.drop n) 0 = rd b (n : Int) := rd_drop b n 0
  have e1 : rd (b.drop n) 1 = rd b ((n + 1 : Nat) : Int) := rd_drop b n 1
  unfold firstF
  have hk : kOf (b.drop n) = 2 + (rd b (n : Int)).toNat := by unfold kOf; rw [e0]
  have ht : (b.drop n).take (2 + (rd b (n : Int)).toNat) = (b.take (n + (rd b (n : Int)).toNat + 2)).drop n := by
    rw [List.drop_take]
    congr 1
    omega
  have hh : (headOk (b.drop n) = true) ↔ (n + 2 ≤ b.length ∧ 1 ≤ rd b (n : Int) ∧ rd b (n : Int) ≤ 60 ∧ rd b ((n + 1 : Nat) : Int) ≤ 1) := by
    unfold headOk
    rw [e0, e1]
    simp only [Bool.and_eq_true, decide_eq_true_eq, List.length_drop]
    omega
  have hs : (sumOk (b.drop n) = true) ↔ (n + (rd b (n : Int)).toNat + 4 ≤ b.length ∧ (sumsF 0 0 ((b.take (n + (rd b (n : Int)).toNat + 2)).drop n)).1 % 256 = rd b ((n + (rd b (n : Int)).toNat + 2 : Nat) : Int) ∧ (sumsF 0 0 ((b.take (n + (rd b (n : Int)).toNat + 2)).drop n)).2 % 256 = rd b ((n + (rd b (n : Int)).toNat + 3 : Nat) : Int)) := by
    unfold sumOk
    rw [hk, ht, rd_drop, rd_drop]
    simp only [Bool.and_eq_true, decide_eq_true_eq, beq_iff_eq, List.length_drop]
    rw [show n + (2 + (rd b (n : Int)).toNat) = n + (rd b (n : Int)).toNat + 2 by omega, show n + (2 + (rd b (n : Int)).toNat + 1) = n + (rd b (n : Int)).toNat + 3 by omega]
    constructor
    · rintro ⟨h1, h2⟩; exact ⟨by omega, h2⟩
    · rintro ⟨h1, h2⟩; exact ⟨by omega, h2⟩
  by_cases h : (headOk (b.drop n) && sumOk (b.drop n)) = true
  · rw [if_pos h]
    rw [Bool.and_eq_true, hh, hs] at h
    rw [if_pos ⟨h.1.1, h.1.2.1, h.1.2.2.1, h.1.2.2.2, h.2⟩, hk, ht, e1, List.drop_drop]
    congr 2
    omega
  · rw [if_neg h, if_neg]
    intro g
    apply h
    rw [Bool.and_eq_true, hh, hs]
    exact ⟨⟨g.1, g.2.1, g.2.2.1, g.2.2.2.1⟩, g.2.2.2.2⟩
theorem cut_none {b : List Int} {n : Nat} (hn : n ≤ b.length) (h : ¬ (n + 2 ≤ b.length ∧ 1 ≤ rd b (n : Int) ∧ rd b (n : Int) ≤ 60 ∧ rd b ((n + 1 : Nat) : Int) ≤ 1 ∧ n + (rd b (n : Int)).toNat + 4 ≤ b.length ∧ (sumsF 0 0 ((b.take (n + (rd b (n : Int)).toNat + 2)).drop n)).1 % 256 = rd b ((n + (rd b (n : Int)).toNat + 2 : Nat) : Int) ∧ (sumsF 0 0 ((b.take (n + (rd b (n : Int)).toNat + 2)).drop n)).2 % 256 = rd b ((n + (rd b (n : Int)).toNat + 3 : Nat) : Int))) {bs : List (List (List Int))} {ba : List (List Int)} {used g : Nat} {R : List (List (List Int)) × Nat} (hs : readF b (g + 1) bs ba used n = R) : (bs, used) = R := by
  rw [← hs]
  unfold readF
  rw [firstF_eq b n hn, if_neg h]
  rfl
set_option maxRecDepth 100000 in
set_option maxHeartbeats 8000000 in
theorem refScan_walk (A : Option Addr) (c : Nat) (b : List Int) (w : World) (hr : Kd.C (Kd.int .u8) w A b.length b) (hc : b.length ≤ c) (hb : ByteL b) :
    Calls Try.prog 31 #[.slice A b.length c] w fun e w' => ∃ v, e = .returned (.tuple #[v, .int .i64 (scanF b).2.1, .int .i64 (scanF b).2.2]) ∧ Kd.R kBB 35 w' w.heap.size (fun _ => True) v (scanF b).1 ∧ Below w.heap.size w w' := by
  have HR := Aside0.mk hr
  have HC := Aside0.mk hc
  have HBy := Aside0.mk hb
  clear hr hc hb
  go_enter Try.func31, Try.ntmps31
  by_cases hl : 1200 < b.length
  · have e : Aside0 (scanF b = ([], 0, 1)) := ⟨by unfold scanF; rw [if_pos hl]⟩
    go_wp2
    go_ret3
    rw [e.out]
    exact ⟨_, rfl, Kd.R_nil _ _ _ _ _, Below.refl _ _⟩
  have e : Aside0 (scanF b = ((readF b (b.length + 1) [] [] 0 0).1, ((readF b (b.length + 1) [] [] 0 0).2 : Int), 0)) := ⟨by unfold scanF; rw [if_neg hl]⟩
  go_wp2
  go_loopw [5, 6, 7, 8] (fun v2 v4 v3 v5 wr => ∃ (f n used : Nat) (bs : List (List (List Int))) (ba : List (List Int)), v3 = .int .i64 used ∧ v5 = .int .i64 n ∧ Aside0 (n ≤ b.length) ∧ Aside0 (b.length < n + f) ∧ Aside0 (readF b f bs ba used n = readF b (b.length + 1) [] [] 0 0) ∧ Aside0 (bs.length ≤ n) ∧ Aside0 (ba.length ≤ n) ∧ Aside0 (Kd.R kBB 35 wr w.heap.size (fun k => True ∧ some k ≠ v4.ownBlock) v2 bs) ∧ Aside0 (Kd.R kB 36 wr w.heap.size (fun _ => True) v4 ba) ∧ Aside0 (Below w.heap.size w wr)) (fun _ _ _ v5 _ => b.length - (intOf v5).toNat)
  case atStart => exact ⟨b.length + 1, 0, 0, [], [], rfl, rfl, ⟨Nat.zero_le _⟩, ⟨by omega⟩, ⟨rfl⟩, ⟨Nat.zero_le _⟩, ⟨Nat.zero_le _⟩, ⟨Kd.R_nil _ _ _ _ _⟩, ⟨Kd.R_nil _ _ _ _ _⟩, ⟨Below.refl _ _⟩⟩
  case round =>
    obtain ⟨f, n, used, bs, ba, rfl, rfl, hn, hf, hs, hbl, hal, HO2, HO4, HB⟩ := hrel
    have hn' := hn.out
    have hc' := HC.out
    obtain ⟨g, rfl⟩ : ∃ g, f = g + 1 := ⟨f - 1, by have := hf.out; omega⟩
    by_cases h5 : n + 5 ≤ b.length
    · have HCb := Kd.C_below HR.out HB.out
      obtain ⟨ad, rfl, hc0⟩ := Kd.at_int HCb (n : Int) (by omega) (by omega)
      obtain ⟨ad', had, hc1⟩ := Kd.at_int HCb ((n + 1 : Nat) : Int) (by omega) (by omega)
      obtain rfl := Option.some.inj had
      clear had
      have hN := Aside0.mk (fun h => cut_none hn' h hs.out)
      have hx0b := HBy.out _ (show rd b (n : Int) ∈ b by rw [rd_at (show n < b.length by omega)]; exact List.getElem_mem _)
      obtain ⟨x0, hx0⟩ : ∃ x, x = rd b (n : Int) := ⟨_, rfl⟩
      obtain ⟨x1, hx1⟩ : ∃ x, x = rd b ((n + 1 : Nat) : Int) := ⟨_, rfl⟩
      rw [← hx0] at hc0 hx0b hN
      rw [← hx1] at hc1 hN
      replace hx0 := Aside0.mk hx0
      replace hx1 := Aside0.mk hx1
      simp only [Int.toNat_natCast] at hc0 hc1
      replace hc1 : wr.cell? ⟨ad.block, ad.off + (n + 1), none⟩ = some (.int .u8 x1) := by
        have : ad.add (n + 1) = ⟨ad.block, ad.off + (n + 1), none⟩ := by unfold Addr.add; rw [if_neg (by omega)]
        rw [← this]; exact hc1
      by_cases h3 : x0 < 1
      · have hex := Aside0.mk (hN.out (fun h => by have := h.2.1; omega))
        go_wp2
        go_ret3
        rw [e.out, ← hex.out]
        exact ⟨_, rfl, Kd.R_drop HO2.out, HB.out⟩
      by_cases h4 : 60 < x0
      · have hex := Aside0.mk (hN.out (fun h => by have := h.2.2.1; omega))
        go_wp2
        go_ret3
        rw [e.out, ← hex.out]
        exact ⟨_, rfl, Kd.R_drop HO2.out, HB.out⟩
      by_cases h6 : 1 < x1
      · have hex := Aside0.mk (hN.out (fun h => by have := h.2.2.2.1; omega))
        go_wp2
        go_ret3
        rw [e.out, ← hex.out]
        exact ⟨_, rfl, Kd.R_drop HO2.out, HB.out⟩
      obtain ⟨k0, rfl⟩ : ∃ k0 : Nat, x0 = k0 := ⟨x0.toNat, by omega⟩
      rw [Int.toNat_natCast] at hN
      by_cases h7 : b.length < n + k0 + 4
      · have hex := Aside0.mk (hN.out (fun h => by have := h.2.2.2.2.1; omega))
        go_wp2
        go_ret3
        rw [e.out, ← hex.out]
        exact ⟨_, rfl, Kd.R_drop HO2.out, HB.out⟩
      have hm := Aside0.mk (Kd.C_mid (lo := n) (hi := n + k0 + 2) HCb (by omega) (by omega) HC.out)
      have hml : Aside0 (((b.take (n + k0 + 2)).drop n).length = k0 + 2) := ⟨by rw [List.length_drop, List.length_take]; omega⟩
      have hcn : ¬ c = n := by omega
      rw [if_neg hcn, show (Kd.int .u8).sz = 1 from rfl, Nat.mul_one] at hm
      have hmb : Aside0 (ByteL ((b.take (n + k0 + 2)).drop n)) := ⟨fun x hx => HBy.out x (List.mem_of_mem_take (List.mem_of_mem_drop hx))⟩
      obtain ⟨S, hS⟩ : ∃ S, Aside0 (S = sumsF 0 0 ((b.take (n + k0 + 2)).drop n)) := ⟨_, ⟨rfl⟩⟩
      have hcall : Aside0 (∀ W, Below wr.heap.size wr W → Calls Try.prog 55 #[.slice (some (ad.add n)) (n + k0 + 2 - n) (c - n)] W fun e w' => e = .returned (.tuple #[.int .i64 S.1, .int .i64 S.2]) ∧ Drawn0 W w') := ⟨fun W hW => hS.out ▸ sums_ref _ _ _ _ W (Kd.C_below hm.out hW) (by rw [hml.out]; omega) (by rw [hml.out]; omega) hmb.out (by rw [hml.out]; omega)⟩
      obtain ⟨ad', had, hc2⟩ := Kd.at_int HCb ((n + k0 + 2 : Nat) : Int) (by omega) (by omega)
      obtain rfl := Option.some.inj had
      clear had
      obtain ⟨ad', had, hc3⟩ := Kd.at_int HCb ((n + k0 + 3 : Nat) : Int) (by omega) (by omega)
      obtain rfl := Option.some.inj had
      clear had
      obtain ⟨y0, hy0⟩ : ∃ x, x = rd b ((n + k0 + 2 : Nat) : Int) := ⟨_, rfl⟩
      obtain ⟨y1, hy1⟩ : ∃ x, x = rd b ((n + k0 + 3 : Nat) : Int) := ⟨_, rfl⟩
      rw [← hy0] at hc2
      rw [← hy1] at hc3
      replace hy0 := Aside0.mk hy0
      replace hy1 := Aside0.mk hy1
      simp only [Int.toNat_natCast] at hc2 hc3
      replace hc2 : wr.cell? ⟨ad.block, ad.off + (n + k0 + 2), none⟩ = some (.int .u8 y0) := by
        have : ad.add (n + k0 + 2) = ⟨ad.block, ad.off + (n + k0 + 2), none⟩ := by unfold Addr.add; rw [if_neg (by omega)]
        rw [← this]; exact hc2
      replace hc3 : wr.cell? ⟨ad.block, ad.off + (n + k0 + 3), none⟩ = some (.int .u8 y1) := by
        have : ad.add (n + k0 + 3) = ⟨ad.block, ad.off + (n + k0 + 3), none⟩ := by unfold Addr.add; rw [if_neg (by omega)]
        rw [← this]; exact hc3
      have hy0b : 0 ≤ y0 ∧ y0 ≤ 255 := hy0.out ▸ HBy.out _ (by rw [rd_at (show n + k0 + 2 < b.length by omega)]; exact List.getElem_mem _)
      have hy1b : 0 ≤ y1 ∧ y1 ≤ 255 := hy1.out ▸ HBy.out _ (by rw [rd_at (show n + k0 + 3 < b.length by omega)]; exact List.getElem_mem _)
      have hSl : Aside0 ((0 ≤ S.1 ∧ S.1 < 251) ∧ 0 ≤ S.2 ∧ S.2 < 251) := ⟨by rw [hS.out, sumsF_eq _ 0 0 (by omega) (by omega) hmb.out]; simp only []; omega⟩
      have hSm : Aside0 (S.1 % 256 = S.1 ∧ S.2 % 256 = S.2) := ⟨by have := hSl.out; omega⟩
      rw [← hS.out, ← hy0.out, ← hy1.out, hSm.out.1, hSm.out.2] at hN
      by_cases h8 : S.1 = y0
      case neg =>
        have hex := Aside0.mk (hN.out (fun h => h8 h.2.2.2.2.2.1))
        have h8' : (S.1 == y0) = false := by simpa using h8
        go_wp2_with (go_at_call 55; refine (hcall.out _ (Below.refl _ _)).mono ?_; rintro e_ w1 ⟨rfl, hd⟩; have HB1 := Aside0.mk (below_step HB.out hd.below); have HO21 := Aside0.mk (Kd.R_below HO2.out hd.below); have HO41 := Aside0.mk (Kd.R_below HO4.out hd.below); have hd2 := (hd.below.cell (World.block_lt_of_cell? wr _ hc2)).trans hc2; have hd3 := (hd.below.cell (World.block_lt_of_cell? wr _ hc3)).trans hc3; have hd1 := (hd.below.cell (World.block_lt_of_cell? wr _ hc1)).trans hc1; clear hd)
        go_ret3
        rw [e.out, ← hex.out]
        exact ⟨_, rfl, Kd.R_drop HO21.out, HB1.out⟩
      by_cases h9 : S.2 = y1
      case neg =>
        have hex := Aside0.mk (hN.out (fun h => h9 h.2.2.2.2.2.2))
        have h9' : (S.2 == y1) = false := by simpa using h9
        go_wp2_with (go_at_call 55; refine (hcall.out _ (Below.refl _ _)).mono ?_; rintro e_ w1 ⟨rfl, hd⟩; have HB1 := Aside0.mk (below_step HB.out hd.below); have HO21 := Aside0.mk (Kd.R_below HO2.out hd.below); have HO41 := Aside0.mk (Kd.R_below HO4.out hd.below); have hd2 := (hd.below.cell (World.block_lt_of_cell? wr _ hc2)).trans hc2; have hd3 := (hd.below.cell (World.block_lt_of_cell? wr _ hc3)).trans hc3; have hd1 := (hd.below.cell (World.block_lt_of_cell? wr _ hc1)).trans hc1; clear hd)
        go_ret3
        rw [e.out, ← hex.out]
        exact ⟨_, rfl, Kd.R_drop HO21.out, HB1.out⟩
      have h8' : (S.1 == y0) = true := by simpa using h8
      have h9' : (S.2 == y1) = true := by simpa using h9
      have hL : b.length ≤ 1200 := by omega
      obtain ⟨rc, hrc⟩ : ∃ rc, Aside0 (rc = (b.take (n + k0 + 2)).drop (n + 2)) := ⟨_, ⟨rfl⟩⟩
      have hrl : Aside0 (rc.length = k0) := ⟨by rw [hrc.out, List.length_drop, List.length_take]; omega⟩
      have hm2 := Kd.C_mid (lo := n + 2) (hi := n + k0 + 2) HCb (by omega) (by omega) HC.out
      rw [← hrc.out, if_neg (show ¬ c = n + 2 by omega), show (Kd.int .u8).sz = 1 from rfl, Nat.mul_one, hrl.out] at hm2
      have hrcC : Aside0 (∀ W, Below wr.heap.size wr W → Kd.C (Kd.int .u8) W (some (ad.add (n + 2))) (n + 2 + k0 - (n + 2)) rc) := ⟨fun W hW => by rw [show n + 2 + k0 - (n + 2) = k0 by omega]; exact Kd.C_below hm2 hW⟩
      clear hm2
      have hcut : Aside0 (firstF (b.drop n) = (rc, (x1 == 1), k0 + 4)) := ⟨by
        rw [firstF_eq b n hn', ← hx0.out, ← hx1.out, Int.toNat_natCast, ← hS.out, ← hy0.out, ← hy1.out, hSm.out.1, hSm.out.2, if_pos ⟨by omega, by omega, by omega, by omega, by omega, h8, h9⟩, hrc.out]⟩
      have hstep : Aside0 ((if (x1 == 1) = true then readF b g (bs ++ [ba ++ [rc]]) [] (n + (k0 + 4)) (n + (k0 + 4)) else readF b g bs (ba ++ [rc]) used (n + (k0 + 4))) = readF b (b.length + 1) [] [] 0 0) := ⟨by
        rw [← hs.out]
        conv => rhs; unfold readF
        rw [hcut.out]
        rfl⟩
      have hcw1 : Aside0 (w.cell? ⟨ad.block, ad.off + (n + 1), none⟩ = some (.int .u8 x1)) := ⟨by
        obtain ⟨ad', had, hcw⟩ := Kd.at_int HR.out ((n + 1 : Nat) : Int) (by omega) (by omega)
        obtain rfl := Option.some.inj had
        rw [hx1.out, show (⟨ad.block, ad.off + (n + 1), none⟩ : Addr) = ad.add (n + 1) by unfold Addr.add; rw [if_neg (by omega)]]
        rw [Int.toNat_natCast] at hcw
        exact hcw⟩
      have hwb : n + (k0 + 4) ≤ b.length := by omega
      by_cases h10 : x1 = 1
      · have h10' : (x1 == 1) = true := by simpa using h10
        have hex : Aside0 (readF b g (bs ++ [ba ++ [rc]]) [] (n + (k0 + 4)) (n + (k0 + 4)) = readF b (b.length + 1) [] [] 0 0) := ⟨by have := hstep.out; rw [if_pos h10'] at this; exact this⟩
        clear hstep hcut h10
        go_wp2_with (first | (go_at_call 55; refine (hcall.out _ (Below.refl _ _)).mono ?_; rintro e_ w1 ⟨rfl, hd⟩; have HB1 := Aside0.mk (below_step HB.out hd.below); have HO21 := Aside0.mk (Kd.R_below HO2.out hd.below); have HO41 := Aside0.mk (Kd.R_below HO4.out hd.below); have hd2 := (hd.below.cell (World.block_lt_of_cell? wr _ hc2)).trans hc2; have hd3 := (hd.below.cell (World.block_lt_of_cell? wr _ hc3)).trans hc3; have hd1 := (hd.below.cell (World.block_lt_of_cell? wr _ hc1)).trans hc1; have HD1 := Aside0.mk hd.below; have hap : Aside0 (∀ k, w1.heap.size ≤ k → True ∧ some k ≠ u6.ownBlock) := ⟨fun k hk => ⟨trivial, fun he => (by obtain ⟨_, inner, ho, _⟩ := HO41.out; have := own_lt ho k he.symm; omega)⟩⟩; clear hd) | ((with_reducible refine gate_builtin (b := .append) (xs := #[.const (.slice none 0 0), .tmp 90]) rfl ?_); at_builtin; refine Kd.R_append_rows (Kd.int .u8) (w0 := w) w.heap.size rfl (.const (.slice none 0 0)) (.tmp 90) 36 5 (.int .u8 0) 1 rfl Try.underlying36 info5 rfl (by decide) (by omega) (.slice none 0 0) [] rc (some (ad.add (n + 2))) (n + 2 + k0 - (n + 2)) (c - (n + 2)) (fun k => w1.heap.size ≤ k) (fun _ => False) rfl rfl (Kd.R_nil _ _ _ _ _) (hrcC.out _ HD1.out) (fun x cs h => h) (fun _ h => h.elim) (fun _ h => h) HB1.out (below_size HB1.out) (by simp only [List.length_nil]; omega) ?_; intro vc w2 ho hb hg hat; rw [List.nil_append] at ho; obtain ⟨Ac, cc, rfl⟩ := Kd.R_slice ho; have HB2 := Aside0.mk hb; have HO22 := Aside0.mk (Kd.R_grown HO21.out hg (fun _ _ => by simp [Value.ownBlock])); have HO42 := Aside0.mk (Kd.R_grown HO41.out hg (fun _ _ => by simp [Value.ownBlock])); have HOc := Aside0.mk ho; clear ho hb hg hat) | ((with_reducible refine gate_builtin (b := .append) (xs := #[.tmp 82, .tmp 92]) rfl ?_); at_builtin; refine Kd.R_append kB (w0 := w) w.heap.size rfl (.tmp 82) (.tmp 92) 35 36 (.slice none 0 0) 24 rfl Try.underlying35 info36 rfl (by decide) (by omega) u6 ba rc [.slice Ac rc.length cc] (fun _ => True) (fun k => w1.heap.size ≤ k) rfl rfl ⟨_, rfl, HOc.out⟩ hap.out (fun _ _ => trivial) HO42.out HB2.out (below_size HB2.out) (by have := hal.out; omega) ?_; intro v4 w3 ho hb hg hat; obtain ⟨A4, c4, rfl⟩ := Kd.R_slice ho; rw [List.length_append, List.length_singleton] at ho hat; have HO43 := Aside0.mk ho; have HB3 := Aside0.mk hb; have HO23 := Aside0.mk (Kd.R_after HO22.out hg hat); have hd13 := (HB3.out.cell (World.block_lt_of_cell? w _ hcw1.out)).trans hcw1.out; clear ho hb hg hat) | ((with_reducible refine gate_builtin (b := .append) (xs := #[.tmp 105, .tmp 107]) rfl ?_); at_builtin; refine Kd.R_append kBB (w0 := w) w.heap.size rfl (.tmp 105) (.tmp 107) 41 35 (.slice none 0 0) 24 rfl Try.underlying41 info35 rfl (by decide) (by omega) u5 bs (ba ++ [rc]) [.slice A4 (ba.length + 1) c4] (fun _ => True) (fun k => True ∧ some k ≠ u5.ownBlock) rfl rfl ⟨_, rfl, R_apart HO43.out HO23.out (by intro q hq; simp [Kd.slice, Kd.int, Kd.scalar] at hq; omega)⟩ (fun k hk => hk) (fun _ _ => trivial) (Kd.R_drop HO23.out) HB3.out (below_size HB3.out) (by have := hbl.out; omega) ?_; intro v5 w4 ho hb hg hat; have HO24 := Aside0.mk ho; have HB4 := Aside0.mk hb; clear ho hb hg hat))
        go_roundw
        case rel => exact ⟨g, n + (k0 + 4), n + (k0 + 4), bs ++ [ba ++ [rc]], [], by simp, by simp, ⟨hwb⟩, ⟨by have := hf.out; omega⟩, hex, ⟨by have := hbl.out; rw [List.length_append, List.length_singleton]; omega⟩, ⟨Nat.zero_le _⟩, ⟨Kd.R_apart_nil HO24.out⟩, ⟨Kd.R_nil _ _ _ _ _⟩, HB4⟩
        case measure => simp [intOf]; omega
      · have h10' : (x1 == 1) = false := by simpa using h10
        have hex : Aside0 (readF b g bs (ba ++ [rc]) used (n + (k0 + 4)) = readF b (b.length + 1) [] [] 0 0) := ⟨by have := hstep.out; rw [if_neg (by rw [h10']; simp)] at this; exact this⟩
        clear hstep hcut h10
        go_wp2_with (first | (go_at_call 55; refine (hcall.out _ (Below.refl _ _)).mono ?_; rintro e_ w1 ⟨rfl, hd⟩; have HB1 := Aside0.mk (below_step HB.out hd.below); have HO21 := Aside0.mk (Kd.R_below HO2.out hd.below); have HO41 := Aside0.mk (Kd.R_below HO4.out hd.below); have hd2 := (hd.below.cell (World.block_lt_of_cell? wr _ hc2)).trans hc2; have hd3 := (hd.below.cell (World.block_lt_of_cell? wr _ hc3)).trans hc3; have hd1 := (hd.below.cell (World.block_lt_of_cell? wr _ hc1)).trans hc1; have HD1 := Aside0.mk hd.below; have hap : Aside0 (∀ k, w1.heap.size ≤ k → True ∧ some k ≠ u6.ownBlock) := ⟨fun k hk => ⟨trivial, fun he => (by obtain ⟨_, inner, ho, _⟩ := HO41.out; have := own_lt ho k he.symm; omega)⟩⟩; clear hd) | ((with_reducible refine gate_builtin (b := .append) (xs := #[.const (.slice none 0 0), .tmp 90]) rfl ?_); at_builtin; refine Kd.R_append_rows (Kd.int .u8) (w0 := w) w.heap.size rfl (.const (.slice none 0 0)) (.tmp 90) 36 5 (.int .u8 0) 1 rfl Try.underlying36 info5 rfl (by decide) (by omega) (.slice none 0 0) [] rc (some (ad.add (n + 2))) (n + 2 + k0 - (n + 2)) (c - (n + 2)) (fun k => w1.heap.size ≤ k) (fun _ => False) rfl rfl (Kd.R_nil _ _ _ _ _) (hrcC.out _ HD1.out) (fun x cs h => h) (fun _ h => h.elim) (fun _ h => h) HB1.out (below_size HB1.out) (by simp only [List.length_nil]; omega) ?_; intro vc w2 ho hb hg hat; rw [List.nil_append] at ho; obtain ⟨Ac, cc, rfl⟩ := Kd.R_slice ho; have HB2 := Aside0.mk hb; have HO22 := Aside0.mk (Kd.R_grown HO21.out hg (fun _ _ => by simp [Value.ownBlock])); have HO42 := Aside0.mk (Kd.R_grown HO41.out hg (fun _ _ => by simp [Value.ownBlock])); have HOc := Aside0.mk ho; clear ho hb hg hat) | ((with_reducible refine gate_builtin (b := .append) (xs := #[.tmp 82, .tmp 92]) rfl ?_); at_builtin; refine Kd.R_append kB (w0 := w) w.heap.size rfl (.tmp 82) (.tmp 92) 35 36 (.slice none 0 0) 24 rfl Try.underlying35 info36 rfl (by decide) (by omega) u6 ba rc [.slice Ac rc.length cc] (fun _ => True) (fun k => w1.heap.size ≤ k) rfl rfl ⟨_, rfl, HOc.out⟩ hap.out (fun _ _ => trivial) HO42.out HB2.out (below_size HB2.out) (by have := hal.out; omega) ?_; intro v4 w3 ho hb hg hat; obtain ⟨A4, c4, rfl⟩ := Kd.R_slice ho; rw [List.length_append, List.length_singleton] at ho hat; have HO43 := Aside0.mk ho; have HB3 := Aside0.mk hb; have HO23 := Aside0.mk (Kd.R_after HO22.out hg hat); have hd13 := (HB3.out.cell (World.block_lt_of_cell? w _ hcw1.out)).trans hcw1.out; clear ho hb hg hat))
        go_roundw
        case rel => exact ⟨g, n + (k0 + 4), used, bs, ba ++ [rc], rfl, by simp, ⟨hwb⟩, ⟨by have := hf.out; omega⟩, hex, ⟨by have := hbl.out; omega⟩, ⟨by have := hal.out; rw [List.length_append, List.length_singleton]; omega⟩, HO23, HO43, HB3⟩
        case measure => simp [intOf]; omega
    · have hex : Aside0 ((bs, used) = readF b (b.length + 1) [] [] 0 0) := ⟨cut_none hn' (by intro h; have h1 := h.2.1; have h2 := h.2.2.2.2.1; omega) hs.out⟩
      go_wp2
      go_ret3
      rw [e.out, ← hex.out]
      exact ⟨_, rfl, Kd.R_drop HO2.out, HB.out⟩
def bytesB (b : List Int) : Bool := b.all fun x => decide (0 ≤ x ∧ x ≤ 255)
theorem byteL_of {b : List Int} (h : bytesB b = true) : ByteL b := fun x hx => by
  have := List.all_eq_true.1 h x hx
  simpa using this
theorem of_byteL {b : List Int} (h : ByteL b) : bytesB b = true := List.all_eq_true.2 fun x hx => by
  have := h x hx
  simpa using this
def bagnallref_WalScan.f (b : List Int) : Option (List (List (List Int)) × Int × Int) := if bytesB b = true then some (scanF b) else none
theorem bagnallref_WalScan.calls (A0 : Option Addr) (c0 : Nat) (l0 : List Int) (r1 : List (List (List Int))) (r2 : Int) (r3 : Int) (w : World) (hr0 : Kd.C (Kd.int .u8) w A0 l0.length l0) (hc0 : l0.length ≤ c0) (h : bagnallref_WalScan.f l0 = some (r1, r2, r3)) :
    Calls Try.prog 31 #[.slice A0 l0.length c0] w fun e w' => ∃ v0_ : Value, e = .returned (.tuple #[v0_, .int .i64 r2, .int .i64 r3]) ∧ Kd.R kBB 35 w' w.heap.size (fun _ => True) v0_ r1 ∧ Below w.heap.size w w' := by
  unfold bagnallref_WalScan.f at h
  by_cases hb : bytesB l0 = true
  · rw [if_pos hb] at h
    replace h := Option.some.inj h
    have := refScan_walk A0 c0 l0 w hr0 hc0 (byteL_of hb)
    rw [h] at this
    exact this
  · rw [if_neg hb] at h
    cases h
end Go.Proofs.Ytnjidfgjldkkcaa.Q
