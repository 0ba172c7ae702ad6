/- Texts of this claim, laid together: QSm, QSn, PlStr, PlSort, QRa3, QNx1, QRn, QNl1, PureRowsNexts, QRa2, PlNext, PlSet, PlLog, PlInv. -/
import Derived.Deep.RegionHeld3
import Derived.WideShapes
import Derived.Lib.LazyBuf
import Derived.LoopTactic
import Derived.Lib.Hide
import Derived.RowKit3
import Derived.Laws.AppendOwn
import Derived.Test.YtnjidfgjldkkcaaMTopLog2
/- The methods of store.Store: fault, Commit, Pack, walked. -/
namespace Go.Proofs.Ytnjidfgjldkkcaa.Q
open Go.RowKit Go.Proofs.YtnjidfgjldkkcaaW.PrintWords Go.Proofs.YtnjidfgjldkkcaaW.PrintLast Go.Proofs.YtnjidfgjldkkcaaW.PrintMore Go.Proofs.Ytnjidfgjldkkcaa.Plain
/-- A store at block g: a disk, behind it the rows. -/
def StoreAt (w : World) (base g : Nat) (s : Nat) (data : List Int) (t : List S69) : Prop := ∃ A c B d, DiskAt 95 [.slice B t.length d] w base g (.slice A data.length c) s data ∧ k69.R 69 w base (fun _ => True) (.slice B t.length d) t
def sfaultF (data : List Int) (t cs : List S69) : Int := if cs.length = 0 then 1 else if faultF t cs ≠ 0 then faultF t cs else if 1200 < data.length + (batchF cs).length then 10 else 0
theorem oddR_small {cs : List S69} (h : cs.any oddR = false) : ∀ r ∈ cs, r.f0.size ≤ 20 ∧ r.f1.size ≤ 20 := fun r hr => by
  have := List.any_eq_false.1 h r hr
  unfold oddR at this
  simp at this
  omega
theorem faultF_ok {t cs : List S69} (h : faultF t cs = 0) : cs.length ≤ 60 ∧ cs.any oddR = false ∧ (changedF t cs).length ≤ 40 := by
  unfold faultF at h
  by_cases h1 : 60 < cs.length
  · rw [if_pos h1] at h; cases h
  rw [if_neg h1] at h
  by_cases h2 : cs.any oddR = true
  · rw [if_pos h2] at h; cases h
  rw [if_neg h2] at h
  by_cases h3 : 40 < (changedF t cs).length
  · rw [if_pos h3] at h; cases h
  exact ⟨by omega, Bool.eq_false_iff.2 h2, by omega⟩
theorem batchF_len (l : List S69) (h : ∀ r ∈ l, r.f0.size ≤ 20 ∧ r.f1.size ≤ 20) : (batchF l).length ≤ 45 * l.length := by
  unfold batchF
  induction l with
  | nil => simp [packF]
  | cons r t ih =>
    have h1 := ih (fun q hq => h q (List.mem_cons_of_mem _ hq))
    have h2 := recordF_len r (h r List.mem_cons_self)
    simp only [List.map_cons, packF, List.length_append, frameF_length, List.length_cons]
    omega
set_option maxRecDepth 100000 in
set_option maxHeartbeats 8000000 in
theorem sfault_walk (base g s : Nat) (data : List Int) (t cs : List S69) (C : Option Addr) (e : Nat) (w : World) (hs : StoreAt w base g s data t) (hC : Kd.C k69 w C cs.length cs) (hc : cs.length ≤ e) (hl : t.length ≤ 40) (hd : data.length ≤ 1200) :
    Calls Try.prog 91 #[.pointer (some ⟨g, 0, none⟩), .slice C cs.length e] w fun en w' => en = .returned (.int .i64 (sfaultF data t cs)) ∧ Below w.heap.size w w' := by
  obtain ⟨A, c, B, d, hD, hR⟩ := hs
  have z0 := hD.cells.1
  have z1 : w.cell? ⟨g, 2, none⟩ = some (.slice B t.length d) := by rw [blk_cell hD.1]; rfl
  have hg := blk_lt hD.1
  obtain ⟨-, hcr, hCr⟩ := Kd.R_reads' hR
  have HC := Aside0.mk hC
  have HCr := Aside0.mk hCr
  have H0 := Aside0.mk hc
  have H1 := Aside0.mk hcr
  clear hD hR hC hCr
  by_cases h0 : cs.length = 0
  · have e1 : Aside0 (sfaultF data t cs = 1) := ⟨by unfold sfaultF; rw [if_pos h0]⟩
    go_enter Try.func91, Try.ntmps91
    go_wp2
    go_ret
    rw [e1.out]
    exact ⟨rfl, Below.refl _ _⟩
  have h0' : ¬ (cs.length : Int) = 0 := by omega
  obtain ⟨f, hf⟩ : ∃ f, Aside0 (f = faultF t cs) := ⟨_, ⟨rfl⟩⟩
  have hcall : Aside0 (∀ W, Below w.heap.size w W → Calls Try.prog 48 #[.slice B t.length d, .slice C cs.length e] W fun en w' => en = .returned (.int .i64 f) ∧ Below W.heap.size W w') := ⟨fun W hW => hf.out ▸ fault_walk B C d e t cs W (Kd.C_below HCr.out hW) H1.out (Kd.C_below HC.out hW) H0.out (by omega)⟩
  by_cases hf0 : f = 0
  · subst hf0
    obtain ⟨hn, hodd, -⟩ := faultF_ok hf.out.symm
    have hbl := Aside0.mk (batchF_len cs (oddR_small hodd))
    have hcall2 : Aside0 (∀ W, Below w.heap.size w W → Calls Try.prog 92 #[.slice C cs.length e] W fun en w' => ∃ v, en = .returned v ∧ (Kd.int .u8).R 5 w' W.heap.size (fun _ => True) v (batchF cs) ∧ Below W.heap.size W w') := ⟨fun W hW => batch_walk C e cs W (Kd.C_below HC.out hW) H0.out (by omega) (oddR_small hodd)⟩
    obtain ⟨bt, hbt⟩ : ∃ bt, Aside0 (bt = batchF cs) := ⟨_, ⟨rfl⟩⟩
    rw [← hbt.out] at hcall2 hbl
    have e1 : Aside0 (sfaultF data t cs = if 1200 < data.length + bt.length then 10 else 0) := ⟨by unfold sfaultF; rw [if_neg h0, ← hf.out, if_neg (by simp), ← hbt.out]⟩
    have hS : ∀ w' : World, Below w.heap.size w w' → (w'.cell? ⟨g, 0, none⟩ = some (.slice A data.length c) ∧ Below w.heap.size w w') := fun w' h => ⟨(h.cell hg).trans z0, h⟩
    have hwr : Aside0 (IntKind.i64.wrap ((data.length : Int) + (bt.length : Int)) = (data.length : Int) + (bt.length : Int)) := ⟨IntWalk.i64_in _ (by have := hbl.out; omega)⟩
    go_enter Try.func91, Try.ntmps91
    go_wp2_with (go_at_call 48; refine (hcall.out _ (Below.refl _ _)).mono ?_; rintro e w1 ⟨rfl, hb⟩; have HB1 := Aside0.mk hb; clear hb)
    go_region_held3 (fun w' => w'.cell? ⟨g, 0, none⟩ = some (.slice A data.length c) ∧ Below w.heap.size w w') (first | assumption | exact hS _ (below_drew HB1.out)) (first | (go_at_call 92; refine (hcall2.out _ (And.right (by assumption))).mono ?_; rintro e w2 ⟨v, rfl, ho, hb⟩; obtain ⟨A2, c2, rfl⟩ := Kd.R_slice ho; have hS1 := hS _ (below_step (And.right (by assumption)) hb); clear ho hb))
    all_goals
      have hBW := Aside0.mk hS1.2
      by_cases h12 : 1200 < data.length + bt.length
      · have h12' : (1200 : Int) < (data.length : Int) + (bt.length : Int) := by omega
        rw [hwr.out]
        go_wp2
        go_ret
        rw [e1.out, if_pos h12]
        exact ⟨rfl, hBW.out⟩
      · have h12' : ¬ (1200 : Int) < (data.length : Int) + (bt.length : Int) := by omega
        rw [hwr.out]
        go_wp2
        go_ret
        rw [e1.out, if_neg h12]
        exact ⟨rfl, hBW.out⟩
  · have e1 : Aside0 (sfaultF data t cs = f) := ⟨by unfold sfaultF; rw [if_neg h0, ← hf.out, if_pos hf0]⟩
    go_enter Try.func91, Try.ntmps91
    go_wp2_with (go_at_call 48; refine (hcall.out _ (Below.refl _ _)).mono ?_; rintro e w1 ⟨rfl, hb⟩; have HB1 := Aside0.mk hb; clear hb)
    go_ret
    rw [e1.out]
    exact ⟨rfl, HB1.out⟩
theorem StoreAt.mod {T : List Nat} {B : Nat} {w w' : World} {base g s : Nat} {data : List Int} {t : List S69} (h : StoreAt w base g s data t) (hm : ModT T B w w') (h95 : 95 ∉ T) (h5 : 5 ∉ T) (h69 : 69 ∉ T) : StoreAt w' base g s data t := by
  obtain ⟨A, c, B', d, hD, hR⟩ := h
  exact ⟨A, c, B', d, hD.keep hm h95 h5, hm.R hR (by intro q hq; have : q = 69 := (by simpa [k69, Kd.iso, Kd.pair, Kd.string, Kd.scalar] using hq); subst this; exact h69)⟩
theorem StoreAt.below {w w' : World} {base g s : Nat} {data : List Int} {t : List S69} (h : StoreAt w base g s data t) (hb : Below w.heap.size w w') : StoreAt w' base g s data t := h.mod (ModT.of_below (T := []) (B := 0) hb) (by simp) (by simp) (by simp)
theorem rowsMod {T : List Nat} {B : Nat} {w w' : World} {base : Nat} {v : Value} {t : List S69} (h : k69.R 69 w base (fun _ => True) v t) (hm : ModT T B w w') (h69 : 69 ∉ T) : k69.R 69 w' base (fun _ => True) v t := hm.R h (by intro q hq; have : q = 69 := (by simpa [k69, Kd.iso, Kd.pair, Kd.string, Kd.scalar] using hq); subst this; exact h69)
/-- How a method of a store ends. -/
def StPost (base g : Nat) (w : World) (r : Value) (s : Nat) (d : List Int) (t : List S69) (e : Ending) (w' : World) : Prop := e = .returned r ∧ StoreAt w' base g s d t ∧ ModT [95, 5] base w w'
/-- The rows of a store are turned. -/
theorem StoreAt.turn {w : World} {base g s : Nat} {data : List Int} {A : Option Addr} {c : Nat} {rv : Value} {B' : Option Addr} {d' : Nat} {t' : List S69} (hD : DiskAt 95 [rv] w base g (.slice A data.length c) s data) (hR' : k69.R 69 w base (fun _ => True) (.slice B' t'.length d') t') :
    StoreAt (w.setCell ⟨g, 2, none⟩ (.slice B' t'.length d')) base g s data t' :=
  ⟨A, c, B', d', ⟨by rw [heap_set1 hD.1]; rfl, hD.2.1, Kd.R_set hD.2.2.1 hD.1 (noR5 (by simp)) _ _, hD.2.2.2⟩, Kd.R_set hR' hD.1 (by intro q hq; have : q = 69 := (by simpa [k69, Kd.iso, Kd.pair, Kd.string, Kd.scalar] using hq); omega) _ _⟩
theorem sfaultF_ok {data : List Int} {t cs : List S69} (h : sfaultF data t cs = 0) : cs.length ≠ 0 ∧ faultF t cs = 0 ∧ data.length + (batchF cs).length ≤ 1200 := by
  unfold sfaultF at h
  by_cases h1 : cs.length = 0
  · rw [if_pos h1] at h; cases h
  rw [if_neg h1] at h
  by_cases h2 : faultF t cs = 0
  · rw [if_neg (by simp [h2])] at h
    by_cases h3 : 1200 < data.length + (batchF cs).length
    · rw [if_pos h3] at h; cases h
    · exact ⟨h1, h2, by omega⟩
  · rw [if_pos h2] at h; exact absurd h h2
def commitF (s : Nat) (data : List Int) (t cs : List S69) : Nat × List Int × List S69 := if sfaultF data t cs ≠ 0 then (s, data, t) else ((data ++ batchF cs).length, data ++ batchF cs, changedF t cs)
set_option maxRecDepth 100000 in
set_option maxHeartbeats 8000000 in
theorem commit_walk (base g s : Nat) (data : List Int) (t cs : List S69) (C : Option Addr) (e : Nat) (w : World) (hs : StoreAt w base g s data t) (hC : ∀ W, ModT [95, 5] base w W → Kd.C k69 W C cs.length cs) (hc : cs.length ≤ e) (hl : t.length ≤ 40) (hd : data.length ≤ 1200) :
    Calls Try.prog 77 #[.pointer (some ⟨g, 0, none⟩), .slice C cs.length e] w (StPost base g w (.int .i64 (sfaultF data t cs)) (commitF s data t cs).1 (commitF s data t cs).2.1 (commitF s data t cs).2.2) := by
  have HS := Aside0.mk hs
  have HC := Aside0.mk hC
  have H0 := Aside0.mk hc
  clear hs hC
  obtain ⟨f, hf⟩ : ∃ f, Aside0 (f = sfaultF data t cs) := ⟨_, ⟨rfl⟩⟩
  have hcall : Aside0 (Calls Try.prog 91 #[.pointer (some ⟨g, 0, none⟩), .slice C cs.length e] w fun en w' => en = .returned (.int .i64 f) ∧ Below w.heap.size w w') := ⟨hf.out ▸ sfault_walk base g s data t cs C e w HS.out (HC.out _ (ModT.refl _ _ _)) hc hl hd⟩
  rw [← hf.out]
  by_cases hf0 : f = 0
  · subst hf0
    obtain ⟨-, hfl, hbl⟩ := sfaultF_ok hf.out.symm
    obtain ⟨hn, hodd, -⟩ := faultF_ok hfl
    have e1 : Aside0 (commitF s data t cs = ((data ++ batchF cs).length, data ++ batchF cs, changedF t cs)) := ⟨by unfold commitF; rw [← hf.out, if_neg (by simp)]⟩
    have hcall2 : Aside0 (∀ W, ModT [95, 5] base w W → Calls Try.prog 92 #[.slice C cs.length e] W fun en w' => ∃ v, en = .returned v ∧ (Kd.int .u8).R 5 w' W.heap.size (fun _ => True) v (batchF cs) ∧ Below W.heap.size W w') := ⟨fun W hW => batch_walk C e cs W (HC.out _ hW) H0.out (by omega) (oddR_small hodd)⟩
    have e2 : Aside0 (wrCode data (batchF cs) = 0 ∧ wrData data (batchF cs) = data ++ batchF cs) := ⟨by unfold wrCode wrData; rw [if_neg (by omega), if_neg (by omega)]; exact ⟨rfl, rfl⟩⟩
    obtain ⟨ys, hys⟩ : ∃ ys, Aside0 (ys = changedF t cs) := ⟨_, ⟨rfl⟩⟩
    rw [← hys.out] at e1
    generalize batchF cs = bt at *
    go_enter Try.func77, Try.ntmps77
    go_wp2_with (go_at_call 91; refine hcall.out.mono ?_; rintro e w1 ⟨rfl, hb⟩; have HM1 := Aside0.mk (ModT.of_below (T := [95, 5]) (B := base) hb); have HS1 := Aside0.mk (HS.out.below hb); clear hb)
    obtain ⟨A1, c1, B1, d1, hD1, hR1⟩ := HS1.out
    have HD1 := Aside0.mk hD1
    have HR1 := Aside0.mk hR1
    clear hD1 hR1
    go_region_with (first | (go_at_call 92; refine (hcall2.out _ (HM1.out.trans (ModT.of_below (below_drew (Below.refl _ _))))).mono ?_; rintro e w2 ⟨v, rfl, ho, hb⟩; obtain ⟨A2, c2, rfl⟩ := Kd.R_slice ho; have HM2 := Aside0.mk (ModT.of_below (T := [95, 5]) (B := base) (below_step (below_drew (Below.refl _ _)) hb)); have HO2 := Aside0.mk (Kd.R_reads' ho); have HD2 := Aside0.mk (HD1.out.keep (ModT.of_below (T := []) (B := 0) (below_step (below_drew (Below.refl _ _)) hb)) (by simp) (by simp)); have HR2 := Aside0.mk (rowsMod HR1.out (ModT.of_below (T := []) (B := 0) (below_step (below_drew (Below.refl _ _)) hb)) (by simp)); clear ho hb) | (go_at_call 87; refine (disk_Write 95 _ base g _ s data bt A2 c2 _ _ HD2.out (by simp) HO2.out.2.2 HO2.out.2.1 rfl (by omega)).mono ?_; rintro e w3 ⟨v', rfl, hd3, hm3⟩; obtain ⟨A3, c3, rfl⟩ := Kd.R_slice hd3.2.2.1; rw [e2.out.2] at hd3; have HD3 := Aside0.mk hd3; have HR3 := Aside0.mk (rowsMod HR2.out hm3 (by simp)); have HM3 := Aside0.mk hm3; clear hd3 hm3))
    all_goals
      have hyl := changedF_len t cs
      go_wp2_with (first | (go_at_call 88; refine (disk_Sync 95 _ base g _ s _ _ HD3.out (by simp)).mono ?_; rintro e w4 ⟨v', rfl, hd4, hm4⟩; obtain ⟨A4, c4, rfl⟩ := Kd.R_slice hd4.2.2.1; have HD4 := Aside0.mk hd4; have z4 : w4.cell? ⟨g, 2, none⟩ = some (.slice B1 t.length d1) := (by rw [blk_cell hd4.1]; rfl); have HR4 := Aside0.mk (rowsMod HR3.out hm4 (by simp)); have HM4 := Aside0.mk (((HM1.out.trans HM2.out).trans HM3.out).trans hm4); have hcap := Aside0.mk (Kd.R_reads' HR4.out); clear hd4 hm4) | (go_at_call 49; refine (changed_walk B1 C d1 e t cs _ hcap.out.2.2 hcap.out.2.1 (HC.out _ HM4.out) H0.out (by omega)).mono ?_; rintro e w5 ⟨v5, rfl, ho, hb⟩; rw [← hys.out] at ho; obtain ⟨B5, d5, rfl⟩ := Kd.R_slice ho; have HD5 := Aside0.mk (HD4.out.keep (ModT.of_below (T := []) (B := 0) hb) (by simp) (by simp)); have f5 := blk_frozen HD5.out.1 2; have z5 : w5.cell? ⟨g, 2, none⟩ = some (.slice B1 t.length d1) := (by rw [blk_cell HD5.out.1]; rfl); have HR5 := Aside0.mk (Kd.R_lower ho HD4.out.lt); have HM5 := Aside0.mk (HM4.out.trans (ModT.of_below hb)); clear ho hb))
      go_ret
      rw [e1.out]
      exact ⟨rfl, StoreAt.turn HD5.out HR5.out, HM5.out.trans (ModT.set_ HD5.out.1 (by simp) HD5.out.2.1 _)⟩
  · have e1 : Aside0 (commitF s data t cs = (s, data, t)) := ⟨by unfold commitF; rw [← hf.out, if_pos hf0]⟩
    go_enter Try.func77, Try.ntmps77
    go_wp2_with (go_at_call 91; refine hcall.out.mono ?_; rintro e w1 ⟨rfl, hb⟩; have HB1 := Aside0.mk hb; clear hb)
    go_ret
    rw [e1.out]
    exact ⟨rfl, HS.out.below HB1.out, ModT.of_below HB1.out⟩
end Go.Proofs.Ytnjidfgjldkkcaa.Q
/- The methods of store.Store: Pack, Crash, walked. -/
namespace Go.Proofs.Ytnjidfgjldkkcaa.Q
open Go.RowKit Go.Proofs.YtnjidfgjldkkcaaW.PrintWords Go.Proofs.YtnjidfgjldkkcaaW.PrintLast Go.Proofs.YtnjidfgjldkkcaaW.PrintMore Go.Proofs.Ytnjidfgjldkkcaa.Plain
set_option maxRecDepth 100000 in
set_option maxHeartbeats 8000000 in
theorem pack_walk (base g s : Nat) (data : List Int) (t : List S69) (w : World) (hs : StoreAt w base g s data t) (hl : t.length ≤ 40) (hsm : ∀ r ∈ t, r.f0.size ≤ 20 ∧ r.f1.size ≤ 20) (hbl : (batchF t).length ≤ 1200) :
    Calls Try.prog 78 #[.pointer (some ⟨g, 0, none⟩)] w (StPost base g w (.tuple #[]) (batchF t).length (batchF t) t) := by
  obtain ⟨A1, c1, B1, d1, hD1, hR1⟩ := hs
  have HD1 := Aside0.mk hD1
  have HR1 := Aside0.mk hR1
  have HSM := Aside0.mk hsm
  clear hD1 hR1 hsm
  have hcall2 : Aside0 (∀ W, k69.R 69 W base (fun _ => True) (.slice B1 t.length d1) t → Calls Try.prog 92 #[.slice B1 t.length d1] W fun en w' => ∃ v, en = .returned v ∧ (Kd.int .u8).R 5 w' W.heap.size (fun _ => True) v (batchF t) ∧ Below W.heap.size W w') := ⟨fun W hW => by
    have hcap := Kd.R_reads' hW
    exact batch_walk B1 d1 t W hcap.2.2 hcap.2.1 (by omega) HSM.out⟩
  have e2 : Aside0 (wrCode [] (batchF t) = 0 ∧ wrData [] (batchF t) = batchF t) := ⟨by unfold wrCode wrData; rw [if_neg (by simp; omega), if_neg (by simp; omega)]; exact ⟨rfl, rfl⟩⟩
  generalize batchF t = bt at *
  go_enter Try.func78, Try.ntmps78
  go_wp2_with (go_at_call 89; refine (disk_Trim 95 _ base g _ s data 0 _ HD1.out (by simp) (Nat.zero_le _)).mono ?_; rintro e w2 ⟨v', rfl, hd2, hm2⟩; obtain ⟨A2, c2, rfl⟩ := Kd.R_slice hd2.2.2.1; rw [List.take_zero] at hd2; have HD2 := Aside0.mk hd2; have HR2 := Aside0.mk (rowsMod HR1.out hm2 (by simp)); have HM2 := Aside0.mk hm2; have z2 : w2.drew.cell? ⟨g, 2, none⟩ = some (.slice B1 t.length d1) := (by show w2.cell? ⟨g, 2, none⟩ = _; rw [blk_cell hd2.1]; rfl); clear hd2 hm2)
  have HD2' := Aside0.mk (HD2.out.keep (ModT.of_below (T := []) (B := 0) (below_drew (Below.refl _ _))) (by simp) (by simp))
  have HR2' := Aside0.mk (rowsMod HR2.out (ModT.of_below (T := []) (B := 0) (below_drew (Below.refl _ _))) (by simp))
  have HM2' := Aside0.mk (HM2.out.trans (ModT.of_below (below_drew (Below.refl _ _))))
  go_region_held3 (fun w' => w'.cell? ⟨g, 2, none⟩ = some (.slice B1 t.length d1)) (first | assumption) (first | (go_at_call 92; refine (hcall2.out _ HR2'.out).mono ?_; rintro e w3 ⟨v, rfl, ho, hb⟩; obtain ⟨A3, c3, rfl⟩ := Kd.R_slice ho; have HM3 := Aside0.mk (HM2'.out.trans (ModT.of_below hb)); have HO3 := Aside0.mk (Kd.R_reads' ho); have HD3 := Aside0.mk (HD2'.out.keep (ModT.of_below (T := []) (B := 0) hb) (by simp) (by simp)); have HR3 := Aside0.mk (rowsMod HR2'.out (ModT.of_below (T := []) (B := 0) hb) (by simp)); have z3 : w3.cell? ⟨g, 2, none⟩ = some (.slice B1 t.length d1) := (by rw [blk_cell HD3.out.1]; rfl); clear ho hb) | (go_at_call 87; refine (disk_Write 95 _ base g _ _ [] bt A3 c3 _ _ HD3.out (by simp) HO3.out.2.2 HO3.out.2.1 rfl (by simp; omega)).mono ?_; rintro e w4 ⟨v', rfl, hd4, hm4⟩; obtain ⟨A4, c4, rfl⟩ := Kd.R_slice hd4.2.2.1; rw [e2.out.2] at hd4; have HD4 := Aside0.mk hd4; have HR4 := Aside0.mk (rowsMod HR3.out hm4 (by simp)); have HM4 := Aside0.mk (HM3.out.trans hm4); have z4 : w4.cell? ⟨g, 2, none⟩ = some (.slice B1 t.length d1) := (by rw [blk_cell hd4.1]; rfl); clear hd4 hm4))
  all_goals
    go_wp2_with (go_at_call 88; refine (disk_Sync 95 _ base g _ _ _ _ HD4.out (by simp)).mono ?_; rintro e w5 ⟨v', rfl, hd5, hm5⟩; obtain ⟨A5, c5, rfl⟩ := Kd.R_slice hd5.2.2.1; have HD5 := Aside0.mk hd5; have HR5 := Aside0.mk (rowsMod HR4.out hm5 (by simp)); have HM5 := Aside0.mk (HM4.out.trans hm5); clear hd5 hm5)
    go_end0
    exact ⟨rfl, ⟨_, _, _, _, HD5.out, HR5.out⟩, HM5.out⟩
def crashCode (data : List Int) (t cs : List S69) (n : Int) : Int := if n < 0 then 2 else sfaultF data t cs
set_option maxRecDepth 100000 in
set_option maxHeartbeats 8000000 in
theorem crash_bad (base g s : Nat) (data : List Int) (t cs : List S69) (n : Int) (C : Option Addr) (e : Nat) (w : World) (hs : StoreAt w base g s data t) (hC : Kd.C k69 w C cs.length cs) (hc : cs.length ≤ e) (hl : t.length ≤ 40) (hd : data.length ≤ 1200) (hn : crashCode data t cs n ≠ 0) :
    Calls Try.prog 79 #[.pointer (some ⟨g, 0, none⟩), .slice C cs.length e, .int .i64 n] w (StPost base g w (.int .i64 (crashCode data t cs n)) s data t) := by
  have HS := Aside0.mk hs
  have HC := Aside0.mk hC
  have H0 := Aside0.mk hc
  clear hs hC
  by_cases h0 : n < 0
  · have e1 : Aside0 (crashCode data t cs n = 2) := ⟨by unfold crashCode; rw [if_pos h0]⟩
    go_enter Try.func79, Try.ntmps79
    go_wp2
    go_ret
    rw [e1.out]
    exact ⟨rfl, HS.out, ModT.refl _ _ _⟩
  have e1 : Aside0 (crashCode data t cs n = sfaultF data t cs) := ⟨by unfold crashCode; rw [if_neg h0]⟩
  rw [e1.out] at hn ⊢
  obtain ⟨f, hf⟩ : ∃ f, Aside0 (f = sfaultF data t cs) := ⟨_, ⟨rfl⟩⟩
  have hcall : Aside0 (Calls Try.prog 91 #[.pointer (some ⟨g, 0, none⟩), .slice C cs.length e] w fun en w' => en = .returned (.int .i64 f) ∧ Below w.heap.size w w') := ⟨hf.out ▸ sfault_walk base g s data t cs C e w HS.out HC.out hc hl hd⟩
  rw [← hf.out] at hn ⊢
  go_enter Try.func79, Try.ntmps79
  go_wp2_with (go_at_call 91; refine hcall.out.mono ?_; rintro e w1 ⟨rfl, hb⟩; have HB1 := Aside0.mk hb; clear hb)
  go_ret
  exact ⟨rfl, HS.out.below HB1.out, ModT.of_below HB1.out⟩
set_option maxRecDepth 100000 in
set_option maxHeartbeats 8000000 in
theorem crash_good (base g s : Nat) (data : List Int) (t cs : List S69) (n : Nat) (C : Option Addr) (e : Nat) (w : World) (hs : StoreAt w base g s data t) (hC : ∀ W, ModT [95, 5] base w W → Kd.C k69 W C cs.length cs) (hc : cs.length ≤ e) (hl : t.length ≤ 40) (hd : data.length ≤ 1200) (hn : sfaultF data t cs = 0)
    (hby : ∀ x ∈ data ++ batchF cs, 0 ≤ x ∧ x ≤ 255) (t' : List S69) (u : Nat) (hr : readS ((data ++ batchF cs).take (fallN s n (data ++ batchF cs).length)) = (t', (u : Int), 0)) (hu : u ≤ ((data ++ batchF cs).take (fallN s n (data ++ batchF cs).length)).length) :
    Calls Try.prog 79 #[.pointer (some ⟨g, 0, none⟩), .slice C cs.length e, .int .i64 (n : Int)] w (StPost base g w (.int .i64 0) u (((data ++ batchF cs).take (fallN s n (data ++ batchF cs).length)).take u) t') := by
  have HS := Aside0.mk hs
  have HC := Aside0.mk hC
  have H0 := Aside0.mk hc
  clear hs hC
  have hcall : Aside0 (Calls Try.prog 91 #[.pointer (some ⟨g, 0, none⟩), .slice C cs.length e] w fun en w' => en = .returned (.int .i64 0) ∧ Below w.heap.size w w') := ⟨hn ▸ sfault_walk base g s data t cs C e w HS.out (HC.out _ (ModT.refl _ _ _)) hc hl hd⟩
  obtain ⟨-, hfl, hbl⟩ := sfaultF_ok hn
  obtain ⟨hcn, hodd, -⟩ := faultF_ok hfl
  have hcall2 : Aside0 (∀ W, ModT [95, 5] base w W → Calls Try.prog 92 #[.slice C cs.length e] W fun en w' => ∃ v, en = .returned v ∧ (Kd.int .u8).R 5 w' W.heap.size (fun _ => True) v (batchF cs) ∧ Below W.heap.size W w') := ⟨fun W hW => batch_walk C e cs W (HC.out _ hW) H0.out (by omega) (oddR_small hodd)⟩
  have e2 : Aside0 (wrCode data (batchF cs) = 0 ∧ wrData data (batchF cs) = data ++ batchF cs) := ⟨by unfold wrCode wrData; rw [if_neg (by omega), if_neg (by omega)]; exact ⟨rfl, rfl⟩⟩
  obtain ⟨d1, hd1⟩ : ∃ d1, Aside0 (d1 = data ++ batchF cs) := ⟨_, ⟨rfl⟩⟩
  have hd1l : Aside0 (d1.length ≤ 1200) := ⟨by rw [hd1.out, List.length_append]; omega⟩
  rw [← hd1.out] at hr hu hby e2 ⊢
  obtain ⟨d2, hd2⟩ : ∃ d2, Aside0 (d2 = d1.take (fallN s n d1.length)) := ⟨_, ⟨rfl⟩⟩
  have hby2 : Aside0 (∀ x ∈ d2, 0 ≤ x ∧ x ≤ 255) := ⟨fun x hx => hby x (List.mem_of_mem_take (hd2.out ▸ hx))⟩
  have hd2l : Aside0 (d2.length ≤ 1300) := ⟨by rw [hd2.out, List.length_take]; have := hd1l.out; omega⟩
  rw [← hd2.out] at hr hu ⊢
  have HRd := Aside0.mk hr
  clear hr hby hd1
  generalize batchF cs = bt at *
  go_enter Try.func79, Try.ntmps79
  go_wp2_with (go_at_call 91; refine hcall.out.mono ?_; rintro e w1 ⟨rfl, hb⟩; have HM1 := Aside0.mk (ModT.of_below (T := [95, 5]) (B := base) hb); have HS1 := Aside0.mk (HS.out.below hb); clear hb)
  obtain ⟨A1, c1, B1, b1, hD1, hR1⟩ := HS1.out
  have HD1 := Aside0.mk hD1
  have HR1 := Aside0.mk hR1
  clear hD1 hR1
  go_region_with (first | (go_at_call 92; refine (hcall2.out _ (HM1.out.trans (ModT.of_below (below_drew (Below.refl _ _))))).mono ?_; rintro e w2 ⟨v, rfl, ho, hb⟩; obtain ⟨A2, c2, rfl⟩ := Kd.R_slice ho; have HM2 := Aside0.mk (ModT.of_below (T := [95, 5]) (B := base) (below_step (below_drew (Below.refl _ _)) hb)); have HO2 := Aside0.mk (Kd.R_reads' ho); have HD2 := Aside0.mk (HD1.out.keep (ModT.of_below (T := []) (B := 0) (below_step (below_drew (Below.refl _ _)) hb)) (by simp) (by simp)); have HR2 := Aside0.mk (rowsMod HR1.out (ModT.of_below (T := []) (B := 0) (below_step (below_drew (Below.refl _ _)) hb)) (by simp)); clear ho hb) | (go_at_call 87; refine (disk_Write 95 _ base g _ s data bt A2 c2 _ _ HD2.out (by simp) HO2.out.2.2 HO2.out.2.1 rfl (by omega)).mono ?_; rintro e w3 ⟨v', rfl, hd3, hm3⟩; obtain ⟨A3, c3, rfl⟩ := Kd.R_slice hd3.2.2.1; rw [e2.out.2] at hd3; have HD3 := Aside0.mk hd3; have HR3 := Aside0.mk (rowsMod HR2.out hm3 (by simp)); have HM3 := Aside0.mk ((HM1.out.trans HM2.out).trans hm3); clear hd3 hm3))
  all_goals
    go_wp2_with (first | (go_at_call 90; refine (disk_Fall 95 _ base g _ s d1 n _ HD3.out (by simp) (by have := hd1l.out; omega)).mono ?_; rintro e w4 ⟨v', rfl, hd4, hm4⟩; rw [← hd2.out] at hd4; obtain ⟨A4, c4, rfl⟩ := Kd.R_slice hd4.2.2.1; have HD4 := Aside0.mk hd4; have z4 : w4.cell? ⟨g, 0, none⟩ = some (.slice A4 d2.length c4) := hd4.cells.1; have HR4 := Aside0.mk (rowsMod HR3.out hm4 (by simp)); have HM4 := Aside0.mk (HM3.out.trans hm4); have hcap := Aside0.mk (Kd.R_reads' hd4.2.2.1); clear hd4 hm4) | (go_at_call 59; refine (store_read A4 c4 d2 _ hcap.out.2.2 hcap.out.2.1 hd2l.out hby2.out).mono ?_; rintro e w5 ⟨v5, rfl, ho, hb⟩; rw [HRd.out] at ho ⊢; obtain ⟨B5, b5, rfl⟩ := Kd.R_slice ho; have HD5 := Aside0.mk (HD4.out.keep (ModT.of_below (T := []) (B := 0) hb) (by simp) (by simp)); have HR5 := Aside0.mk (Kd.R_lower ho HD4.out.lt); have HM5 := Aside0.mk (HM4.out.trans (ModT.of_below hb)); clear ho hb) | (go_at_call 89; refine (disk_Trim 95 _ base g _ _ d2 u _ HD5.out (by simp) hu).mono ?_; rintro e w6 ⟨v', rfl, hd6, hm6⟩; obtain ⟨A6, c6, rfl⟩ := Kd.R_slice hd6.2.2.1; have HD6 := Aside0.mk hd6; have HR6 := Aside0.mk (rowsMod HR5.out hm6 (by simp)); have HM6 := Aside0.mk (HM5.out.trans hm6); have f6 := blk_frozen HD6.out.1 2; have z6 : w6.cell? ⟨g, 2, none⟩ = some (.slice B1 t.length b1) := (by rw [blk_cell HD6.out.1]; rfl); clear hd6 hm6))
    go_ret
    exact ⟨rfl, StoreAt.turn HD6.out HR6.out, HM6.out.trans (ModT.set_ HD6.out.1 (by simp) HD6.out.2.1 _)⟩
end Go.Proofs.Ytnjidfgjldkkcaa.Q
/- Plain words on texts as lists of numbers. No program. -/
namespace Go.Proofs.Ytnjidfgjldkkcaa.Plain
open Go.RowKit Go.Proofs.YtnjidfgjldkkcaaW.PrintWords
theorem str_bytes (s : ByteArray) : strOfNums (bytesOf s) = s := by
  unfold bytesOf
  apply Go.WideShapes.bytes_inj
  simp only [strOfNums, List.map_map]
  have e : ((fun n : Int => UInt8.ofNat n.toNat) ∘ fun b : UInt8 => (b.toNat : Int)) = id := by
    funext b
    simp
  rw [e, List.map_id]
theorem str_inj {a b : ByteArray} (h : bytesOf a = bytesOf b) : a = b := by rw [← str_bytes a, ← str_bytes b, h]
theorem str_append (xs ys : List Int) : strOfNums xs ++ strOfNums ys = strOfNums (xs ++ ys) := by
  apply Go.WideShapes.bytes_inj
  simp [strOfNums, ByteArray.data_append]
theorem bytes_extract (s : ByteArray) (a b : Nat) : bytesOf (s.extract a b) = ((bytesOf s).take b).drop a := by
  unfold bytesOf
  rw [ByteArray.data_extract, Array.toList_extract, List.map_take, List.map_drop, List.drop_take]
theorem size_bytes (s : ByteArray) : (bytesOf s).length = s.size := bytesOf_length s
theorem bt_get {s : ByteArray} {i : Nat} (h : i < s.size) : bt s (i : Int) = (bytesOf s)[i]'(by rw [size_bytes]; exact h) := by
  rw [← rd_bytesOf]; exact rd_at _
theorem toList_bytes (s : ByteArray) : bytesOf s = s.toList.map fun b => (b.toNat : Int) := by
  rw [Go.ByteArray.toList_eq]; rfl
theorem toList_inj {a b : ByteArray} : a.toList = b.toList ↔ a = b := by
  constructor
  · intro h; exact str_inj (by rw [toList_bytes, toList_bytes, h])
  · rintro rfl; rfl
end Go.Proofs.Ytnjidfgjldkkcaa.Plain
/- Plain laws of tables in the order of their keys: what a table without a fault is; where a key stands; the binary search. -/
namespace Go.Proofs.Ytnjidfgjldkkcaa.Plain
open Go.RowKit Go.Proofs.Ytnjidfgjldkkcaa.Q Go.Proofs.YtnjidfgjldkkcaaW.PrintWords

/-- One key ahead of another one. -/
def kl (a b : ByteArray) : Bool := Op.bytesLess a.toList b.toList
theorem less_irr : ∀ x : List UInt8, Op.bytesLess x x = false
  | [] => rfl
  | a :: x => by
    have := less_irr x
    have h : ¬ a < a := fun h => by have := UInt8.lt_iff_toNat_lt.1 h; omega
    simp [Op.bytesLess, this]
theorem less_trans : ∀ x y z : List UInt8, Op.bytesLess x y = true → Op.bytesLess y z = true → Op.bytesLess x z = true
  | _, _, [], _, h => by cases ‹List UInt8› <;> simp [Op.bytesLess] at h
  | _, [], _ :: _, h, _ => by cases ‹List UInt8› <;> simp [Op.bytesLess] at h
  | [], _ :: _, _ :: _, _, _ => by simp [Op.bytesLess]
  | a :: x, b :: y, c :: z, h1, h2 => by
    simp only [Op.bytesLess, Bool.or_eq_true, Bool.and_eq_true, decide_eq_true_eq, beq_iff_eq] at h1 h2 ⊢
    rcases h1 with h1 | ⟨rfl, h1⟩
    · rcases h2 with h2 | ⟨rfl, h2⟩
      · exact .inl (UInt8.lt_iff_toNat_lt.2 (by have := UInt8.lt_iff_toNat_lt.1 h1; have := UInt8.lt_iff_toNat_lt.1 h2; omega))
      · exact .inl h1
    · rcases h2 with h2 | ⟨rfl, h2⟩
      · exact .inl h2
      · exact .inr ⟨rfl, less_trans x y z h1 h2⟩
theorem kl_irr (a : ByteArray) : kl a a = false := less_irr _
theorem kl_trans {a b c : ByteArray} (h1 : kl a b = true) (h2 : kl b c = true) : kl a c = true := less_trans _ _ _ h1 h2
theorem kl_asym {a b : ByteArray} (h : kl a b = true) : kl b a = false := by
  cases h2 : kl b a
  · rfl
  · have := kl_trans h h2
    rw [kl_irr] at this
    cases this
theorem kl_tri {a b : ByteArray} (h1 : kl a b = false) (h2 : kl b a = false) : a = b := by
  have := less_or a.toList b.toList
  unfold kl at h1 h2
  rw [h1, h2] at this
  simp only [Bool.false_or, Bool.not_false, beq_iff_eq] at this
  exact toList_inj.1 this

/-- A row that may be in a table. -/
def GoodRow (r : S69) : Prop := 1 ≤ r.f0.size ∧ r.f0.size ≤ 20 ∧ 1 ≤ r.f1.size ∧ r.f1.size ≤ 20
/-- The keys ascend. -/
def Asc (l : List S69) : Prop := l.Pairwise fun a b => kl a.f0 b.f0 = true
theorem fault_zero : ∀ (p : Option ByteArray) (l : List S69), faultFrom p l = 0 → (∀ r ∈ l, GoodRow r) ∧ Asc l ∧ (∀ q, p = some q → ∀ r ∈ l, kl q r.f0 = true)
  | p, [], _ => ⟨by simp, List.Pairwise.nil, by simp⟩
  | p, r :: t, h => by
    unfold faultFrom at h
    by_cases h1 : r.f0.size < 1 ∨ 20 < r.f0.size ∨ 20 < r.f1.size
    · rw [if_pos h1] at h; exact absurd h (by decide)
    rw [if_neg h1] at h
    by_cases h2 : r.f1.size = 0
    · rw [if_pos h2] at h; exact absurd h (by decide)
    rw [if_neg h2] at h
    have key : faultFrom (some r.f0) t = 0 ∧ ∀ q, p = some q → kl q r.f0 = true := by
      cases p with
      | none => exact ⟨h, by simp⟩
      | some q =>
        replace h : (if Op.bytesLess q.toList r.f0.toList = true then faultFrom (some r.f0) t else 7) = 0 := h
        by_cases h3 : Op.bytesLess q.toList r.f0.toList = true
        · rw [if_pos h3] at h
          exact ⟨h, fun q' e => by obtain rfl := Option.some.inj e; exact h3⟩
        · rw [if_neg h3] at h; exact absurd h (by decide)
    obtain ⟨g, a, c⟩ := fault_zero (some r.f0) t key.1
    refine ⟨?_, List.Pairwise.cons (fun x hx => c _ rfl x hx) a, ?_⟩
    · intro x hx
      rcases List.mem_cons.1 hx with rfl | hx
      · exact ⟨by omega, by omega, by omega, by omega⟩
      · exact g x hx
    · intro q hq x hx
      rcases List.mem_cons.1 hx with rfl | hx
      · exact key.2 q hq
      · exact kl_trans (key.2 q hq) (c _ rfl x hx)
theorem rowsErr_zero {l : List S69} (h : rowsErr l = 0) : l.length ≤ 40 ∧ (∀ r ∈ l, GoodRow r) ∧ Asc l := by
  unfold rowsErr at h
  split at h
  · cases h
  · have := fault_zero none l h
    exact ⟨by omega, this.1, this.2.1⟩

/-- How many keys are ahead of k. -/
def cut (l : List S69) (k : ByteArray) : Nat := (l.takeWhile fun r => kl r.f0 k).length
theorem cut_le (l : List S69) (k : ByteArray) : cut l k ≤ l.length := by
  induction l with
  | nil => simp [cut]
  | cons r t ih => unfold cut at *; rw [List.takeWhile_cons]; split <;> simp; omega
theorem cut_less {l : List S69} (ha : Asc l) (k : ByteArray) : ∀ (i : Nat) (h : i < l.length), (kl l[i].f0 k = true ↔ i < cut l k) := by
  induction l with
  | nil => intro i h; simp at h
  | cons r t ih =>
    intro i h
    have ht := ih (List.Pairwise.of_cons ha)
    have hr := (List.pairwise_cons.1 ha).1
    unfold cut at *
    rw [List.takeWhile_cons]
    cases hk : kl r.f0 k
    · simp only [Bool.false_eq_true, if_false, List.length_nil, Nat.not_lt_zero, iff_false]
      cases i with
      | zero => simp [hk]
      | succ i =>
        intro hc
        simp only [List.getElem_cons_succ] at hc
        have := kl_trans (hr _ (List.getElem_mem (by simpa using h))) hc
        rw [hk] at this
        cases this
    · rw [if_pos rfl]
      cases i with
      | zero => simp [hk]
      | succ i =>
        simp only [List.getElem_cons_succ, List.length_cons, Nat.add_lt_add_iff_right]
        exact ht i (by simpa using h)
theorem bs_cut (less : Nat → Bool) (p : Nat) : ∀ (f i j : Nat), (∀ h, i ≤ h → h < j → (less h = true ↔ h < p)) → i ≤ p → p ≤ j → j - i ≤ f → bs less f i j = p
  | 0, i, j, _, h1, h2, h3 => by show i = p; omega
  | f + 1, i, j, hl, h1, h2, h3 => by
    unfold bs
    by_cases hij : i < j
    · rw [if_pos hij]
      have hh := hl ((i + j) / 2) (by omega) (by omega)
      by_cases hb : less ((i + j) / 2) = true
      · rw [if_pos hb]
        have := hh.1 hb
        exact bs_cut less p f _ j (fun h a b => hl h (by omega) b) (by omega) h2 (by omega)
      · rw [if_neg hb]
        have : ¬ (i + j) / 2 < p := fun h => hb (hh.2 h)
        exact bs_cut less p f i _ (fun h a b => hl h a (by omega)) h1 (by omega) (by omega)
    · rw [if_neg hij]; omega
theorem cmpS_neg (a k : ByteArray) : cmpS a k < 0 ↔ kl a k = true := by
  unfold cmpS kl
  constructor
  · intro h
    split at h
    · assumption
    · split at h <;> omega
  · intro h
    rw [if_pos h]; omega
theorem cmpS_zero (a k : ByteArray) : cmpS a k = 0 ↔ a = k := by
  constructor
  · intro h
    unfold cmpS at h
    split at h
    · omega
    · split at h
      · omega
      · exact kl_tri (Bool.eq_false_iff.2 ‹_›) (Bool.eq_false_iff.2 ‹_›)
  · rintro rfl
    unfold cmpS
    have := kl_irr a
    unfold kl at this
    rw [this]
    simp
theorem placeI_cut {l : List S69} (ha : Asc l) (k : ByteArray) : placeI l k = cut l k := by
  refine bs_cut _ _ _ _ _ (fun h _ hh => ?_) (Nat.zero_le _) (cut_le l k) (by omega)
  unfold lessAt
  have e : l.getD h z69 = l[h] := by rw [List.getD_eq_getElem?_getD, List.getElem?_eq_getElem hh]; rfl
  rw [e, decide_eq_true_eq, cmpS_neg]
  exact cut_less ha k h hh
theorem placeB_iff {l : List S69} (ha : Asc l) (k : ByteArray) : placeB l k = true ↔ ∃ h : cut l k < l.length, l[cut l k].f0 = k := by
  unfold placeB
  rw [placeI_cut ha, Bool.and_eq_true, decide_eq_true_eq, decide_eq_true_eq, cmpS_zero]
  constructor
  · rintro ⟨h1, h2⟩
    have e : l.getD (cut l k) z69 = l[cut l k] := by rw [List.getD_eq_getElem?_getD, List.getElem?_eq_getElem h1]; rfl
    rw [e] at h2
    exact ⟨h1, h2⟩
  · rintro ⟨h1, h2⟩
    have e : l.getD (cut l k) z69 = l[cut l k] := by rw [List.getD_eq_getElem?_getD, List.getElem?_eq_getElem h1]; rfl
    rw [e]
    exact ⟨h1, h2⟩
/-- A key that stands there stands at its place. -/
theorem cut_at {l : List S69} (ha : Asc l) {i : Nat} (h : i < l.length) : cut l l[i].f0 = i := by
  have h1 := cut_less ha l[i].f0 i h
  rw [kl_irr] at h1
  simp only [Bool.false_eq_true, false_iff, Nat.not_lt] at h1
  rcases Nat.lt_or_ge (cut l l[i].f0) i with h2 | h2
  · have h3 := cut_less ha l[i].f0 (cut l l[i].f0) (by omega)
    have h4 : kl l[cut l l[i].f0].f0 l[i].f0 = true := List.pairwise_iff_getElem.1 ha _ _ (by omega) h h2
    have := h3.1 h4
    omega
  · omega
end Go.Proofs.Ytnjidfgjldkkcaa.Plain
-- Written for this seat by a program of its session (xp.py over the kit's printer).
namespace Go.Proofs.Ytnjidfgjldkkcaa.Q
open Go.RowKit Go.Proofs.YtnjidfgjldkkcaaW.PrintWords Go.Proofs.YtnjidfgjldkkcaaW.PrintLast Go.Proofs.YtnjidfgjldkkcaaW.PrintMore
attribute [local go_sem] max2_int min2_int max_two min_two max_three min_three max_four min_four xq_geq xq_leq xq_gtr   -- for this text's walks alone
set_option linter.unusedVariables false
set_option linter.unusedSimpArgs false

/-! ### bagnallref_rowsBegin: function 47 -/
def bagnallref_rowsBegin.l0 : Nat → ByteArray → List (S69) → List (S69) → Int → Int → Option ((List (S69)))
  | 0, _, _, _, _, _ => none
  | k + 1, x1, x5, x8, x9, x10 => if x10 < x9 then (if 0 ≤ x10 then (if x10 < (x8.length : Int) then (if (((rd_T69 x8 x10).f0).size : Int) ≥ (x1.size : Int) then (if 0 ≤ (x1.size : Int) then (if (x1.size : Int) ≤ (((rd_T69 x8 x10).f0).size : Int) then (if (((rd_T69 x8 x10).f0).extract 0 x1.size).toList = x1.toList then (if x5.length < 4398046511104 then (bagnallref_rowsBegin.l0 k x1 (x5 ++ [(⟨(rd_T69 x8 x10).f0, (rd_T69 x8 x10).f1⟩ : S69)]) x8 x9 (wrap64 (x10 + 1))) else (none)) else (bagnallref_rowsBegin.l0 k x1 x5 x8 x9 (wrap64 (x10 + 1)))) else (none)) else (none)) else (bagnallref_rowsBegin.l0 k x1 x5 x8 x9 (wrap64 (x10 + 1)))) else (none)) else (none)) else (some x5)
def bagnallref_rowsBegin.f (k : Nat) (l0 : List (S69)) (a1 : ByteArray) : Option ((List (S69))) := bagnallref_rowsBegin.l0 k a1 ([] : List (S69)) l0 (l0.length : Int) 0
theorem bagnallref_rowsBegin.mono_l : ∀ k, (∀ y0 y1 y2 y3 y4, LeO (bagnallref_rowsBegin.l0 k y0 y1 y2 y3 y4) (bagnallref_rowsBegin.l0 (k + 1) y0 y1 y2 y3 y4))
  | 0 => fun _ _ _ _ _ r h => by simp [bagnallref_rowsBegin.l0] at h
  | k + 1 => by
    have ih0 := bagnallref_rowsBegin.mono_l k
    · intro y0 y1 y2 y3 y4
      unfold bagnallref_rowsBegin.l0
      repeat' first
      | (with_reducible exact ih0 _ _ _ _ _)
      | (with_reducible exact LeO.refl _)
      | (with_reducible exact LeO.none _)
      | (with_reducible refine LeO.ite ?_ ?_)
      | (with_reducible refine LeO.bind ?_ (fun _ => ?_))
      | exact ih0 _ _ _ _ _
      | exact LeO.none _
      | refine LeO.ite ?_ ?_
      | refine LeO.bind ?_ (fun _ => ?_)
theorem bagnallref_rowsBegin.mono : ∀ a0 a1 k, LeO (bagnallref_rowsBegin.f k a0 a1) (bagnallref_rowsBegin.f (k + 1) a0 a1) := by
  intro a0 a1 k
  have ih0 := bagnallref_rowsBegin.mono_l k
  unfold bagnallref_rowsBegin.f
  repeat' first
      | (with_reducible exact ih0 _ _ _ _ _)
      | (with_reducible exact LeO.refl _)
      | (with_reducible exact LeO.none _)
      | (with_reducible refine LeO.ite ?_ ?_)
      | (with_reducible refine LeO.bind ?_ (fun _ => ?_))
      | exact ih0 _ _ _ _ _
      | exact LeO.none _
      | refine LeO.ite ?_ ?_
      | refine LeO.bind ?_ (fun _ => ?_)
set_option maxHeartbeats 8000000 in
set_option maxRecDepth 100000 in
theorem bagnallref_rowsBegin.calls (k : Nat) (A0 : Option Addr) (c0 : Nat) (l0 : List (S69)) (a1 : ByteArray) (r : List (S69)) (w : World) (hr0 : Kd.C k69 w A0 l0.length l0) (hc0 : l0.length ≤ c0) (h : bagnallref_rowsBegin.f k l0 a1 = some r) :
    Calls Try.prog 47 #[.slice A0 l0.length c0, .string a1] w fun e w' => ∃ v0_ : Value, e = .returned (v0_) ∧ Kd.R k69 69 w' w.heap.size (fun _ => True) v0_ r ∧ Below w.heap.size w w' := by
  have hu69 := Try.underlying69
  have HR0 := Aside0.mk hr0
  have HC0 := Aside0.mk hc0
  clear hr0 hc0
  have HB := Aside0.mk (Below.refl w.heap.size w)
  have H : (bagnallref_rowsBegin.l0 k a1 ([] : List (S69)) l0 (l0.length : Int) 0) = some r := h
  clear h
  have H' := Aside0.mk H
  clear H
  go_enter Try.func47, Try.ntmps47
  go_wp2
  go_loopg [5, 10] k (fun kq v5 v10 w' => ∃ (x5_1 : List (S69)) (x10_1 : Int), v10 = .int .i64 x10_1 ∧ Aside0 (bagnallref_rowsBegin.l0 kq a1 x5_1 l0 (l0.length : Int) x10_1 = some r) ∧ Aside0 (kq ≤ k) ∧ Aside0 (Kd.R k69 69 w' w.heap.size (fun _ => True) v5 x5_1) ∧ Aside0 (Below w.heap.size w w'))
  case atStart => exact ⟨(([] : List (S69))), (0), (by first | rfl | (simp; done) | (simp [*]; done)), H', ⟨Nat.le_refl _⟩, ⟨by first | exact Kd.R_nil _ _ _ _ _ | exact Kd.N_nil _ _ _ _ _ | exact Kd.V_nil _ _ _ _ _ | exact Kd.Q_nil _ _ _ _ _ | exact Kd.S_nil _ _ _ _ _⟩, ⟨by repeat (first | (with_reducible first | exact HB.out | apply below_alloc | apply pw_below_drewN | apply below_drew1) | exact HB.out)⟩⟩
  case round =>
    clear H'
    try clear p2
    obtain ⟨x5_1, x10_1, rfl, HA, HK1, HO_5, HB⟩ := hrel
    cases gk with
    | zero => exact absurd HA.out (by simp [bagnallref_rowsBegin.l0])
    | succ k1 =>
      have H := HA.out
      clear HA
      simp only [bagnallref_rowsBegin.l0] at H
      by_cases c3 : x10_1 < (l0.length : Int)
      · rw [if_pos c3] at H
        have c3b0 : decide (x10_1 < (l0.length : Int)) = true := decide_eq_true c3
        clear c3
        by_cases c4 : 0 ≤ x10_1
        · rw [if_pos c4] at H
          have c4b0 : decide (0 ≤ x10_1) = true := decide_eq_true c4
          clear c4
          by_cases c5 : x10_1 < (l0.length : Int)
          · rw [if_pos c5] at H
            have c5b0 : decide (x10_1 < (l0.length : Int)) = true := decide_eq_true c5
            clear c5
            by_cases c6 : (((rd_T69 l0 x10_1).f0).size : Int) ≥ (a1.size : Int)
            · rw [if_pos c6] at H
              have c6b0 : decide ((a1.size : Int) ≤ (((rd_T69 l0 x10_1).f0).size : Int)) = true := decide_eq_true c6
              have c6b1 : decide (a1.size ≤ ((rd_T69 l0 x10_1).f0).size) = true := decide_eq_true (Int.ofNat_le.mp c6)
              clear c6
              by_cases c7 : 0 ≤ (a1.size : Int)
              · rw [if_pos c7] at H
                have c7b0 := eq_true c7
                have c7b1 : decide (0 ≤ (a1.size : Int)) = true := decide_eq_true c7
                clear c7
                by_cases c8 : (a1.size : Int) ≤ (((rd_T69 l0 x10_1).f0).size : Int)
                · rw [if_pos c8] at H
                  have c8b0 := eq_true c8
                  have c8b1 : decide ((a1.size : Int) ≤ (((rd_T69 l0 x10_1).f0).size : Int)) = true := decide_eq_true c8
                  clear c8
                  by_cases c9 : (((rd_T69 l0 x10_1).f0).extract 0 a1.size).toList = a1.toList
                  · rw [if_pos c9] at H
                    have c9b0 : ((((rd_T69 l0 x10_1).f0).extract 0 a1.size).toList == a1.toList) = true := beq_iff_eq.mpr c9
                    have c9b1 : ((((rd_T69 l0 x10_1).f0).extract 0 a1.size).toList != a1.toList) = false := bne_eq_false_iff_eq.mpr c9
                    clear c9
                    by_cases c10 : x5_1.length < 4398046511104
                    · rw [if_pos c10] at H
                      have LMc10 := Aside0.mk c10
                      clear c10
                      obtain ⟨y139, hy139⟩ : ∃ y_ : List (S69), y_ = (x5_1 ++ [(⟨(rd_T69 l0 x10_1).f0, (rd_T69 l0 x10_1).f1⟩ : S69)]) := ⟨_, rfl⟩
                      replace H : (bagnallref_rowsBegin.l0 k1 a1 y139 l0 (l0.length : Int) (wrap64 (x10_1 + 1))) = some r := by first | (rw [hy139]; with_reducible exact H) | (have H2_ := (Option.bind_some _ _).symm.trans H; rw [hy139]; with_reducible exact H2_) | (have H2_ := (Option.bind_some _ _).symm.trans H; with_reducible exact H2_) | with_reducible exact H | (rw [hy139]; exact H) | exact H
                      have Ny139 := Aside0.mk hy139
                      clear hy139
                      have H' := Aside0.mk H
                      clear H
                      have p137 : 0 ≤ (x10_1 : Int) := of_decide_eq_true (by first | (with_reducible assumption) | assumption)
                      have q137 : x10_1 < (l0.length : Int) := of_decide_eq_true (by first | (with_reducible assumption) | assumption)
                      obtain ⟨ad137, e137, hx137_0, hx137_1⟩ := at_T69 HR0.out x10_1 p137 q137
                      cases e137
                      replace hx137_0 := (HB.out.cell (World.block_lt_of_cell? w _ hx137_0)).trans hx137_0
                      replace hx137_1 := (HB.out.cell (World.block_lt_of_cell? w _ hx137_1)).trans hx137_1
                      replace p137 := eq_true p137
                      replace q137 := eq_true q137
                      go_wp2_with (first | ((with_reducible refine gate_dst (N := 7) rfl ?_); (try (refine gate_guard (by rfl) ?_; dsimp only)); refine box_event ?hg (N := 7) ?hd (cs := #[.string (⟨#[]⟩ : ByteArray), .string (⟨#[]⟩ : ByteArray)]) (t := 69) ?hr ?_; (case hd => rfl); (case hg => rfl); (case hr => first | (go_simp; done) | (go_simp; rfl)); intro gb138 hg w11 hbox hb; have n0_ := Aside0.mk (Kd.R_below (Kd.R_elderB (by (with_reducible repeat (first | apply Kd.R_alloc | apply Kd.R_drewN | apply Kd.R_drew)); exact HO_5.out) gb138 (Nat.le_of_eq hg.symm)) hb); have n1_ := Aside0.mk (below_step (by repeat (first | (with_reducible first | exact HB.out | apply below_alloc | apply pw_below_drewN | apply below_drew1) | exact HB.out)) hb); have n2_ := Aside0.mk (hbox); have n3_ := Aside0.mk ((by rw [hg]; exact (below_size (by repeat (first | (with_reducible first | exact HB.out | apply below_alloc | apply pw_below_drewN | apply below_drew1) | exact HB.out))) : w.heap.size ≤ gb138)); have n4_ := Aside0.mk ((by rw [hg]; exact (below_size (by repeat (first | (with_reducible first | exact HB.out | apply below_alloc | apply pw_below_drewN | apply below_drew1) | exact HB.out))) : w.heap.size ≤ gb138)); clear HO_5; clear HB; have HO_5 := n0_; have HB := n1_; have BK138 := n2_; have GW138 := n3_; have GE138 := n4_; clear n0_ n1_ n2_ n3_ n4_; clear hb hbox hg; have hcz12_0 : w11.cell? ⟨gb138, 0, none⟩ = some (.string (⟨#[]⟩ : ByteArray)) := (blk_cell BK138.out 0).trans rfl; have hcz12_1 : w11.cell? ⟨gb138, 1, none⟩ = some (.string (⟨#[]⟩ : ByteArray)) := (blk_cell BK138.out 1).trans rfl; have hfz12_0 := blk_frozen BK138.out 0; have hfz12_1 := blk_frozen BK138.out 1) | ((with_reducible refine gate_builtin (b := .append) (xs := #[.tmp 29, .tmp 31]) rfl ?_); (try (refine gate_guard (by rfl) ?_; dsimp only)); at_builtin; refine Kd.R_append k69 (w0 := w) w.heap.size rfl (.tmp 29) (.tmp 31) 24 69 (.agg #[(.string ⟨#[]⟩), (.string ⟨#[]⟩)]) 32 rfl Try.underlying24 info69 rfl (by decide) (by omega) u5 x5_1 (⟨(rd_T69 l0 x10_1).f0, (rd_T69 l0 x10_1).f1⟩ : S69) [.string ((rd_T69 l0 x10_1).f0), .string ((rd_T69 l0 x10_1).f1)] (fun k_ => k_ ≠ gb138) (fun _ => False) rfl (by first | (go_simp; done) | (go_simp; rfl)) ?aP (fun _ hk => hk.elim) ?aF ?aO ?aB ?aS ?aL ?_; (case aP => exact k69_mkM _ _ _ (⟨(rd_T69 l0 x10_1).f0, (rd_T69 l0 x10_1).f1⟩ : S69)); (case aB => exact (by repeat (first | (with_reducible first | exact HB.out | apply below_alloc | apply pw_below_drewN | apply below_drew1 | refine below_set ?_ GE138.out) | exact HB.out))); (case aF => exact (fun k_ hk => Kd.freshB (g := gb138) (o := .cells #[.string ((rd_T69 l0 x10_1).f0), .string ((rd_T69 l0 x10_1).f1)] 69 (0, 0)) (by (with_reducible repeat (first | refine blk_drewN ?_ _ | refine blk_drew ?_ | refine blk_alloc ?_ _)); refine blk_put (cs := #[.string ((rd_T69 l0 x10_1).f0), .string (⟨#[]⟩ : ByteArray)]) ?_ 1 _ rfl; (with_reducible repeat (first | refine blk_drewN ?_ _ | refine blk_drew ?_ | refine blk_alloc ?_ _)); refine blk_put (cs := #[.string (⟨#[]⟩ : ByteArray), .string (⟨#[]⟩ : ByteArray)]) ?_ 0 _ rfl; (with_reducible repeat (first | refine blk_drewN ?_ _ | refine blk_drew ?_ | refine blk_alloc ?_ _)); exact BK138.out) k_ hk)); (case aO => exact (by (with_reducible repeat (first | apply Kd.R_alloc | apply Kd.R_drewN | apply Kd.R_drew)); exact Kd.R_mono (Kd.R_far (p := ⟨gb138, 1, none⟩) (Kd.R_far (p := ⟨gb138, 0, none⟩) (Kd.R_mono HO_5.out (fun k_ hk => (⟨hk, hk.2⟩ : _ ∧ k_ ≠ gb138))) (fun _ hk => hk.2) (.string ((rd_T69 l0 x10_1).f0))) (fun _ hk => hk.2) (.string ((rd_T69 l0 x10_1).f1))) (fun _ hk => hk.1.2))); (case aS => exact (below_size (by repeat (first | (with_reducible first | exact HB.out | apply below_alloc | apply pw_below_drewN | apply below_drew1 | refine below_set ?_ GE138.out) | exact HB.out)))); (case aL => have := LMc10.out; omega); intro v140 w13 ho hb hg hat; rw [← Ny139.out] at ho; have n0_ := Aside0.mk (blk_grown (g := gb138) (o := .cells #[.string ((rd_T69 l0 x10_1).f0), .string ((rd_T69 l0 x10_1).f1)] 69 (0, 0)) (by (with_reducible repeat (first | refine blk_drewN ?_ _ | refine blk_drew ?_ | refine blk_alloc ?_ _)); refine blk_put (cs := #[.string ((rd_T69 l0 x10_1).f0), .string (⟨#[]⟩ : ByteArray)]) ?_ 1 _ rfl; (with_reducible repeat (first | refine blk_drewN ?_ _ | refine blk_drew ?_ | refine blk_alloc ?_ _)); refine blk_put (cs := #[.string (⟨#[]⟩ : ByteArray), .string (⟨#[]⟩ : ByteArray)]) ?_ 0 _ rfl; (with_reducible repeat (first | refine blk_drewN ?_ _ | refine blk_drew ?_ | refine blk_alloc ?_ _)); exact BK138.out) hg (Kd.R_away HO_5.out (fun _ hk => hk.2))); have n1_ := Aside0.mk (hb); have n2_ := Aside0.mk (ho); clear BK138; clear HB; clear HO_5; have BK138 := n0_; have HB := n1_; have HO141 := n2_; clear n0_ n1_ n2_; clear ho hb hg hat))
                      go_roundg k1
                      case measure => have := HK1.out; omega
                      case rel => exact ⟨(y139), (wrap64 (x10_1 + 1)), (by first | rfl | (simp; done) | (simp [*]; done)), H', ⟨by have := HK1.out; omega⟩, ⟨by (with_reducible repeat (first | apply Kd.R_alloc | apply Kd.R_drewN | apply Kd.R_drew)); exact Kd.R_mono HO141.out (fun _ hk => trivial)⟩, ⟨by repeat (first | (with_reducible first | exact HB.out | apply below_alloc | apply pw_below_drewN | apply below_drew1 | refine below_set ?_ GE138.out) | exact HB.out)⟩⟩
                    · rw [if_neg c10] at H
                      exact absurd H (by simp)
                  · rw [if_neg c9] at H
                    have c9b0 : ((((rd_T69 l0 x10_1).f0).extract 0 a1.size).toList == a1.toList) = false := beq_eq_false_iff_ne.mpr c9
                    have c9b1 : ((((rd_T69 l0 x10_1).f0).extract 0 a1.size).toList != a1.toList) = true := bne_iff_ne.mpr c9
                    have H' := Aside0.mk H
                    clear H
                    have p137 : 0 ≤ (x10_1 : Int) := of_decide_eq_true (by first | (with_reducible assumption) | assumption)
                    have q137 : x10_1 < (l0.length : Int) := of_decide_eq_true (by first | (with_reducible assumption) | assumption)
                    obtain ⟨ad137, e137, hx137_0, hx137_1⟩ := at_T69 HR0.out x10_1 p137 q137
                    cases e137
                    replace hx137_0 := (HB.out.cell (World.block_lt_of_cell? w _ hx137_0)).trans hx137_0
                    replace hx137_1 := (HB.out.cell (World.block_lt_of_cell? w _ hx137_1)).trans hx137_1
                    replace p137 := eq_true p137
                    replace q137 := eq_true q137
                    go_wp2_with (first | ((with_reducible refine gate_dst (N := 7) rfl ?_); (try (refine gate_guard (by rfl) ?_; dsimp only)); refine box_event ?hg (N := 7) ?hd (cs := #[.string (⟨#[]⟩ : ByteArray), .string (⟨#[]⟩ : ByteArray)]) (t := 69) ?hr ?_; (case hd => rfl); (case hg => rfl); (case hr => first | (go_simp; done) | (go_simp; rfl)); intro gb138 hg w14 hbox hb; have n0_ := Aside0.mk (Kd.R_below (Kd.R_elderB (by (with_reducible repeat (first | apply Kd.R_alloc | apply Kd.R_drewN | apply Kd.R_drew)); exact HO_5.out) gb138 (Nat.le_of_eq hg.symm)) hb); have n1_ := Aside0.mk (below_step (by repeat (first | (with_reducible first | exact HB.out | apply below_alloc | apply pw_below_drewN | apply below_drew1) | exact HB.out)) hb); have n2_ := Aside0.mk (hbox); have n3_ := Aside0.mk ((by rw [hg]; exact (below_size (by repeat (first | (with_reducible first | exact HB.out | apply below_alloc | apply pw_below_drewN | apply below_drew1) | exact HB.out))) : w.heap.size ≤ gb138)); have n4_ := Aside0.mk ((by rw [hg]; exact (below_size (by repeat (first | (with_reducible first | exact HB.out | apply below_alloc | apply pw_below_drewN | apply below_drew1) | exact HB.out))) : w.heap.size ≤ gb138)); clear HO_5; clear HB; have HO_5 := n0_; have HB := n1_; have BK138 := n2_; have GW138 := n3_; have GE138 := n4_; clear n0_ n1_ n2_ n3_ n4_; clear hb hbox hg; have hcz15_0 : w14.cell? ⟨gb138, 0, none⟩ = some (.string (⟨#[]⟩ : ByteArray)) := (blk_cell BK138.out 0).trans rfl; have hcz15_1 : w14.cell? ⟨gb138, 1, none⟩ = some (.string (⟨#[]⟩ : ByteArray)) := (blk_cell BK138.out 1).trans rfl; have hfz15_0 := blk_frozen BK138.out 0; have hfz15_1 := blk_frozen BK138.out 1))
                    go_roundg k1
                    case measure => have := HK1.out; omega
                    case rel => exact ⟨(x5_1), (wrap64 (x10_1 + 1)), (by first | rfl | (simp; done) | (simp [*]; done)), H', ⟨by have := HK1.out; omega⟩, ⟨by (with_reducible repeat (first | apply Kd.R_alloc | apply Kd.R_drewN | apply Kd.R_drew)); exact Kd.R_mono (Kd.R_far (p := ⟨gb138, 1, none⟩) (Kd.R_far (p := ⟨gb138, 0, none⟩) (Kd.R_mono HO_5.out (fun k_ hk => (⟨hk, hk.2⟩ : _ ∧ k_ ≠ gb138))) (fun _ hk => hk.2) (.string ((rd_T69 l0 x10_1).f0))) (fun _ hk => hk.2) (.string ((rd_T69 l0 x10_1).f1))) (fun _ hk => trivial)⟩, ⟨by repeat (first | (with_reducible first | exact HB.out | apply below_alloc | apply pw_below_drewN | apply below_drew1 | refine below_set ?_ GE138.out) | exact HB.out)⟩⟩
                · rw [if_neg c8] at H
                  exact absurd H (by simp)
              · rw [if_neg c7] at H
                exact absurd H (by simp)
            · rw [if_neg c6] at H
              have c6b0 : decide ((a1.size : Int) ≤ (((rd_T69 l0 x10_1).f0).size : Int)) = false := decide_eq_false c6
              have c6b1 : decide (a1.size ≤ ((rd_T69 l0 x10_1).f0).size) = false := decide_eq_false (fun h => c6 (Int.ofNat_le.mpr h))
              clear c6
              have H' := Aside0.mk H
              clear H
              have p137 : 0 ≤ (x10_1 : Int) := of_decide_eq_true (by first | (with_reducible assumption) | assumption)
              have q137 : x10_1 < (l0.length : Int) := of_decide_eq_true (by first | (with_reducible assumption) | assumption)
              obtain ⟨ad137, e137, hx137_0, hx137_1⟩ := at_T69 HR0.out x10_1 p137 q137
              cases e137
              replace hx137_0 := (HB.out.cell (World.block_lt_of_cell? w _ hx137_0)).trans hx137_0
              replace hx137_1 := (HB.out.cell (World.block_lt_of_cell? w _ hx137_1)).trans hx137_1
              replace p137 := eq_true p137
              replace q137 := eq_true q137
              go_wp2_with (first | ((with_reducible refine gate_dst (N := 7) rfl ?_); (try (refine gate_guard (by rfl) ?_; dsimp only)); refine box_event ?hg (N := 7) ?hd (cs := #[.string (⟨#[]⟩ : ByteArray), .string (⟨#[]⟩ : ByteArray)]) (t := 69) ?hr ?_; (case hd => rfl); (case hg => rfl); (case hr => first | (go_simp; done) | (go_simp; rfl)); intro gb138 hg w16 hbox hb; have n0_ := Aside0.mk (Kd.R_below (Kd.R_elderB (by (with_reducible repeat (first | apply Kd.R_alloc | apply Kd.R_drewN | apply Kd.R_drew)); exact HO_5.out) gb138 (Nat.le_of_eq hg.symm)) hb); have n1_ := Aside0.mk (below_step (by repeat (first | (with_reducible first | exact HB.out | apply below_alloc | apply pw_below_drewN | apply below_drew1) | exact HB.out)) hb); have n2_ := Aside0.mk (hbox); have n3_ := Aside0.mk ((by rw [hg]; exact (below_size (by repeat (first | (with_reducible first | exact HB.out | apply below_alloc | apply pw_below_drewN | apply below_drew1) | exact HB.out))) : w.heap.size ≤ gb138)); have n4_ := Aside0.mk ((by rw [hg]; exact (below_size (by repeat (first | (with_reducible first | exact HB.out | apply below_alloc | apply pw_below_drewN | apply below_drew1) | exact HB.out))) : w.heap.size ≤ gb138)); clear HO_5; clear HB; have HO_5 := n0_; have HB := n1_; have BK138 := n2_; have GW138 := n3_; have GE138 := n4_; clear n0_ n1_ n2_ n3_ n4_; clear hb hbox hg; have hcz17_0 : w16.cell? ⟨gb138, 0, none⟩ = some (.string (⟨#[]⟩ : ByteArray)) := (blk_cell BK138.out 0).trans rfl; have hcz17_1 : w16.cell? ⟨gb138, 1, none⟩ = some (.string (⟨#[]⟩ : ByteArray)) := (blk_cell BK138.out 1).trans rfl; have hfz17_0 := blk_frozen BK138.out 0; have hfz17_1 := blk_frozen BK138.out 1))
              go_roundg k1
              case measure => have := HK1.out; omega
              case rel => exact ⟨(x5_1), (wrap64 (x10_1 + 1)), (by first | rfl | (simp; done) | (simp [*]; done)), H', ⟨by have := HK1.out; omega⟩, ⟨by (with_reducible repeat (first | apply Kd.R_alloc | apply Kd.R_drewN | apply Kd.R_drew)); exact Kd.R_mono (Kd.R_far (p := ⟨gb138, 1, none⟩) (Kd.R_far (p := ⟨gb138, 0, none⟩) (Kd.R_mono HO_5.out (fun k_ hk => (⟨hk, hk.2⟩ : _ ∧ k_ ≠ gb138))) (fun _ hk => hk.2) (.string ((rd_T69 l0 x10_1).f0))) (fun _ hk => hk.2) (.string ((rd_T69 l0 x10_1).f1))) (fun _ hk => trivial)⟩, ⟨by repeat (first | (with_reducible first | exact HB.out | apply below_alloc | apply pw_below_drewN | apply below_drew1 | refine below_set ?_ GE138.out) | exact HB.out)⟩⟩
          · rw [if_neg c5] at H
            exact absurd H (by simp)
        · rw [if_neg c4] at H
          exact absurd H (by simp)
      · rw [if_neg c3] at H
        have c3b0 : decide (x10_1 < (l0.length : Int)) = false := decide_eq_false c3
        clear c3
        obtain rfl := Option.some.inj H
        go_wp2
        go_ret
        exact ⟨_, by first | rfl | (simp [errW_none, errW_some] <;> rfl) | (simp [*, errW_none, errW_some] <;> rfl), by (with_reducible repeat (first | apply Kd.R_alloc | apply Kd.R_drewN | apply Kd.R_drew)); exact HO_5.out, by repeat (first | (with_reducible first | exact HB.out | apply below_alloc | apply pw_below_drewN | apply below_drew1) | exact HB.out)⟩

/-! ### bagnallref_RowsFind: function 21 -/
def bagnallref_RowsFind.l0 : Nat → ByteArray → List (S69) → Int → Int → Option (ByteArray × Int)
  | 0, _, _, _, _ => none
  | k + 1, x1, x14, x15, x16 => if x16 < x15 then (if 0 ≤ x16 then (if x16 < (x14.length : Int) then (if ((rd_T69 x14 x16).f0).toList = x1.toList then (some ((rd_T69 x14 x16).f1, 0)) else (bagnallref_RowsFind.l0 k x1 x14 x15 (wrap64 (x16 + 1)))) else (none)) else (none)) else (some ((⟨#[]⟩ : ByteArray), 8))
def bagnallref_RowsFind.f (k : Nat) (l0 : List (S69)) (a1 : ByteArray) : Option (ByteArray × Int) := (bagnallref_RowsFault.f k l0).bind fun t142 => (if t142 = 0 then (bagnallref_RowsFind.l0 k a1 l0 (l0.length : Int) 0) else (some ((⟨#[]⟩ : ByteArray), t142)))
theorem bagnallref_RowsFind.mono_l : ∀ k, (∀ y0 y1 y2 y3, LeO (bagnallref_RowsFind.l0 k y0 y1 y2 y3) (bagnallref_RowsFind.l0 (k + 1) y0 y1 y2 y3))
  | 0 => fun _ _ _ _ r h => by simp [bagnallref_RowsFind.l0] at h
  | k + 1 => by
    have ih0 := bagnallref_RowsFind.mono_l k
    · intro y0 y1 y2 y3
      unfold bagnallref_RowsFind.l0
      repeat' first
      | (with_reducible exact ih0 _ _ _ _)
      | (with_reducible exact bagnallref_RowsFault.mono _ _)
      | (with_reducible exact LeO.refl _)
      | (with_reducible exact LeO.none _)
      | (with_reducible refine LeO.ite ?_ ?_)
      | (with_reducible refine LeO.bind ?_ (fun _ => ?_))
      | exact ih0 _ _ _ _
      | exact bagnallref_RowsFault.mono _ _
      | exact LeO.none _
      | refine LeO.ite ?_ ?_
      | refine LeO.bind ?_ (fun _ => ?_)
theorem bagnallref_RowsFind.mono : ∀ a0 a1 k, LeO (bagnallref_RowsFind.f k a0 a1) (bagnallref_RowsFind.f (k + 1) a0 a1) := by
  intro a0 a1 k
  have ih0 := bagnallref_RowsFind.mono_l k
  unfold bagnallref_RowsFind.f
  repeat' first
      | (with_reducible exact ih0 _ _ _ _)
      | (with_reducible exact bagnallref_RowsFault.mono _ _)
      | (with_reducible exact LeO.refl _)
      | (with_reducible exact LeO.none _)
      | (with_reducible refine LeO.ite ?_ ?_)
      | (with_reducible refine LeO.bind ?_ (fun _ => ?_))
      | exact ih0 _ _ _ _
      | exact bagnallref_RowsFault.mono _ _
      | exact LeO.none _
      | refine LeO.ite ?_ ?_
      | refine LeO.bind ?_ (fun _ => ?_)
set_option maxHeartbeats 8000000 in
set_option maxRecDepth 100000 in
theorem bagnallref_RowsFind.calls (k : Nat) (A0 : Option Addr) (c0 : Nat) (l0 : List (S69)) (a1 : ByteArray) (r1 : ByteArray) (r2 : Int) (w : World) (hr0 : Kd.C k69 w A0 l0.length l0) (hc0 : l0.length ≤ c0) (h : bagnallref_RowsFind.f k l0 a1 = some (r1, r2)) :
    Calls Try.prog 21 #[.slice A0 l0.length c0, .string a1] w fun e w' => e = .returned (.tuple #[.string r1, .int .i64 r2]) ∧ Below w.heap.size w w' := by
  have hu69 := Try.underlying69
  have HR0 := Aside0.mk hr0
  have HC0 := Aside0.mk hc0
  clear hr0 hc0
  have HB := Aside0.mk (Below.refl w.heap.size w)
  have H : ((bagnallref_RowsFault.f k l0).bind fun t142 => (if t142 = 0 then (bagnallref_RowsFind.l0 k a1 l0 (l0.length : Int) 0) else (some ((⟨#[]⟩ : ByteArray), t142)))) = some (r1, r2) := h
  clear h
  replace H := Option.bind_eq_some_iff.mp H
  obtain ⟨t142, A30, H⟩ := H
  replace H : (if t142 = 0 then (bagnallref_RowsFind.l0 k a1 l0 (l0.length : Int) 0) else (some ((⟨#[]⟩ : ByteArray), t142))) = some (r1, r2) := H
  have A3 := Aside0.mk A30
  clear A30
  by_cases c4 : t142 = 0
  · rw [if_pos c4] at H
    have c4b0 : (t142 == 0) = true := beq_iff_eq.mpr c4
    have c4b1 : (t142 != 0) = false := bne_eq_false_iff_eq.mpr c4
    clear c4
    have H' := Aside0.mk H
    clear H
    go_enter Try.func21, Try.ntmps21
    go_wp2_with (first | ((with_reducible refine gate_callee (f := 19) rfl ?_); refine goesL_ (some 10) rfl rfl Try.func19 (by kernel_rfl) rfl #[.slice A0 l0.length c0] rfl (by (try simp only [List.map_toArray, List.map_cons, List.map_nil]); first | done | rfl | (simp only [List.length_drop, List.length_take]; rfl)) ?_; (with_reducible refine (bagnallref_RowsFault.calls k _ _ l0 t142 _ ?side1 ?side2 A3.out).mono ?_); (case side1 => repeat (first | exact HR0.out | (with_reducible refine Kd.C_alloc ?_ _) | (with_reducible refine Kd.C_drewN ?_ _) | (with_reducible refine Kd.C_drew ?_))); (case side2 => exact HC0.out); rintro e w5 ⟨rfl, hb⟩; refine ⟨_, rfl, ?_⟩; have n0_ := Aside0.mk (below_step (by repeat (first | (with_reducible first | exact HB.out | apply below_alloc | apply pw_below_drewN | apply below_drew1) | exact HB.out)) hb); clear HB; have HB := n0_; clear n0_; (try clear hb); (try clear hb2); (try clear hk); (try clear hi)))
    go_loopg [16] k (fun kq v16 w' => ∃ (x16_1 : Int), v16 = .int .i64 x16_1 ∧ Aside0 (bagnallref_RowsFind.l0 kq a1 l0 (l0.length : Int) x16_1 = some (r1, r2)) ∧ Aside0 (kq ≤ k) ∧ Aside0 (Below w.heap.size w w'))
    case atStart => exact ⟨(0), (by first | rfl | (simp; done) | (simp [*]; done)), H', ⟨Nat.le_refl _⟩, ⟨by repeat (first | (with_reducible first | exact HB.out | apply below_alloc | apply pw_below_drewN | apply below_drew1) | exact HB.out)⟩⟩
    case round =>
      clear H'
      try clear c1
      try clear c2
      try clear p2
      try clear c4
      try clear c4b0
      try clear c4b1
      obtain ⟨x16_1, rfl, HA, HK1, HB⟩ := hrel
      cases gk with
      | zero => exact absurd HA.out (by simp [bagnallref_RowsFind.l0])
      | succ k1 =>
        have H := HA.out
        clear HA
        simp only [bagnallref_RowsFind.l0] at H
        by_cases c6 : x16_1 < (l0.length : Int)
        · rw [if_pos c6] at H
          have c6b0 : decide (x16_1 < (l0.length : Int)) = true := decide_eq_true c6
          clear c6
          by_cases c7 : 0 ≤ x16_1
          · rw [if_pos c7] at H
            have c7b0 : decide (0 ≤ x16_1) = true := decide_eq_true c7
            clear c7
            by_cases c8 : x16_1 < (l0.length : Int)
            · rw [if_pos c8] at H
              have c8b0 : decide (x16_1 < (l0.length : Int)) = true := decide_eq_true c8
              clear c8
              by_cases c9 : ((rd_T69 l0 x16_1).f0).toList = a1.toList
              · rw [if_pos c9] at H
                have c9b0 : (((rd_T69 l0 x16_1).f0).toList == a1.toList) = true := beq_iff_eq.mpr c9
                have c9b1 : (((rd_T69 l0 x16_1).f0).toList != a1.toList) = false := bne_eq_false_iff_eq.mpr c9
                clear c9
                simp only [Option.some.injEq, Prod.mk.injEq] at H
                obtain ⟨rfl, rfl⟩ := H
                have p143 : 0 ≤ (x16_1 : Int) := of_decide_eq_true (by first | (with_reducible assumption) | assumption)
                have q143 : x16_1 < (l0.length : Int) := of_decide_eq_true (by first | (with_reducible assumption) | assumption)
                obtain ⟨ad143, e143, hx143_0, hx143_1⟩ := at_T69 HR0.out x16_1 p143 q143
                cases e143
                replace hx143_0 := (HB.out.cell (World.block_lt_of_cell? w _ hx143_0)).trans hx143_0
                replace hx143_1 := (HB.out.cell (World.block_lt_of_cell? w _ hx143_1)).trans hx143_1
                replace p143 := eq_true p143
                replace q143 := eq_true q143
                go_wp2_with (first | ((with_reducible refine gate_dst (N := 8) rfl ?_); refine box_event ?hg (N := 8) ?hd (cs := #[.string (⟨#[]⟩ : ByteArray), .string (⟨#[]⟩ : ByteArray)]) (t := 69) ?hr ?_; (case hd => rfl); (case hg => rfl); (case hr => first | (go_simp; done) | (go_simp; rfl)); intro gb144 hg w10 hbox hb; have n0_ := Aside0.mk (below_step (by repeat (first | (with_reducible first | exact HB.out | apply below_alloc | apply pw_below_drewN | apply below_drew1) | exact HB.out)) hb); have n1_ := Aside0.mk (hbox); have n2_ := Aside0.mk ((by rw [hg]; exact (below_size (by repeat (first | (with_reducible first | exact HB.out | apply below_alloc | apply pw_below_drewN | apply below_drew1) | exact HB.out))) : w.heap.size ≤ gb144)); have n3_ := Aside0.mk ((by rw [hg]; exact (below_size (by repeat (first | (with_reducible first | exact HB.out | apply below_alloc | apply pw_below_drewN | apply below_drew1) | exact HB.out))) : w.heap.size ≤ gb144)); clear HB; have HB := n0_; have BK144 := n1_; have GW144 := n2_; have GE144 := n3_; clear n0_ n1_ n2_ n3_; clear hb hbox hg; have hcz11_0 : w10.cell? ⟨gb144, 0, none⟩ = some (.string (⟨#[]⟩ : ByteArray)) := (blk_cell BK144.out 0).trans rfl; have hcz11_1 : w10.cell? ⟨gb144, 1, none⟩ = some (.string (⟨#[]⟩ : ByteArray)) := (blk_cell BK144.out 1).trans rfl; have hfz11_0 := blk_frozen BK144.out 0; have hfz11_1 := blk_frozen BK144.out 1))
                go_ret2
                exact ⟨by first | rfl | (simp [errW_none, errW_some] <;> rfl) | (simp [*, errW_none, errW_some] <;> rfl), by repeat (first | (with_reducible first | exact HB.out | apply below_alloc | apply pw_below_drewN | apply below_drew1 | refine below_set ?_ GE144.out) | exact HB.out)⟩
              · rw [if_neg c9] at H
                have c9b0 : (((rd_T69 l0 x16_1).f0).toList == a1.toList) = false := beq_eq_false_iff_ne.mpr c9
                have c9b1 : (((rd_T69 l0 x16_1).f0).toList != a1.toList) = true := bne_iff_ne.mpr c9
                have H' := Aside0.mk H
                clear H
                have p143 : 0 ≤ (x16_1 : Int) := of_decide_eq_true (by first | (with_reducible assumption) | assumption)
                have q143 : x16_1 < (l0.length : Int) := of_decide_eq_true (by first | (with_reducible assumption) | assumption)
                obtain ⟨ad143, e143, hx143_0, hx143_1⟩ := at_T69 HR0.out x16_1 p143 q143
                cases e143
                replace hx143_0 := (HB.out.cell (World.block_lt_of_cell? w _ hx143_0)).trans hx143_0
                replace hx143_1 := (HB.out.cell (World.block_lt_of_cell? w _ hx143_1)).trans hx143_1
                replace p143 := eq_true p143
                replace q143 := eq_true q143
                go_wp2_with (first | ((with_reducible refine gate_dst (N := 8) rfl ?_); refine box_event ?hg (N := 8) ?hd (cs := #[.string (⟨#[]⟩ : ByteArray), .string (⟨#[]⟩ : ByteArray)]) (t := 69) ?hr ?_; (case hd => rfl); (case hg => rfl); (case hr => first | (go_simp; done) | (go_simp; rfl)); intro gb144 hg w12 hbox hb; have n0_ := Aside0.mk (below_step (by repeat (first | (with_reducible first | exact HB.out | apply below_alloc | apply pw_below_drewN | apply below_drew1) | exact HB.out)) hb); have n1_ := Aside0.mk (hbox); have n2_ := Aside0.mk ((by rw [hg]; exact (below_size (by repeat (first | (with_reducible first | exact HB.out | apply below_alloc | apply pw_below_drewN | apply below_drew1) | exact HB.out))) : w.heap.size ≤ gb144)); have n3_ := Aside0.mk ((by rw [hg]; exact (below_size (by repeat (first | (with_reducible first | exact HB.out | apply below_alloc | apply pw_below_drewN | apply below_drew1) | exact HB.out))) : w.heap.size ≤ gb144)); clear HB; have HB := n0_; have BK144 := n1_; have GW144 := n2_; have GE144 := n3_; clear n0_ n1_ n2_ n3_; clear hb hbox hg; have hcz13_0 : w12.cell? ⟨gb144, 0, none⟩ = some (.string (⟨#[]⟩ : ByteArray)) := (blk_cell BK144.out 0).trans rfl; have hcz13_1 : w12.cell? ⟨gb144, 1, none⟩ = some (.string (⟨#[]⟩ : ByteArray)) := (blk_cell BK144.out 1).trans rfl; have hfz13_0 := blk_frozen BK144.out 0; have hfz13_1 := blk_frozen BK144.out 1))
                go_roundg k1
                case measure => have := HK1.out; omega
                case rel => exact ⟨(wrap64 (x16_1 + 1)), (by first | rfl | (simp; done) | (simp [*]; done)), H', ⟨by have := HK1.out; omega⟩, ⟨by repeat (first | (with_reducible first | exact HB.out | apply below_alloc | apply pw_below_drewN | apply below_drew1 | refine below_set ?_ GE144.out) | exact HB.out)⟩⟩
            · rw [if_neg c8] at H
              exact absurd H (by simp)
          · rw [if_neg c7] at H
            exact absurd H (by simp)
        · rw [if_neg c6] at H
          have c6b0 : decide (x16_1 < (l0.length : Int)) = false := decide_eq_false c6
          clear c6
          simp only [Option.some.injEq, Prod.mk.injEq] at H
          obtain ⟨rfl, rfl⟩ := H
          go_wp2
          go_ret2
          exact ⟨by first | rfl | (simp [errW_none, errW_some] <;> rfl) | (simp [*, errW_none, errW_some] <;> rfl), by repeat (first | (with_reducible first | exact HB.out | apply below_alloc | apply pw_below_drewN | apply below_drew1) | exact HB.out)⟩
  · rw [if_neg c4] at H
    have c4b0 : (t142 == 0) = false := beq_eq_false_iff_ne.mpr c4
    have c4b1 : (t142 != 0) = true := bne_iff_ne.mpr c4
    simp only [Option.some.injEq, Prod.mk.injEq] at H
    obtain ⟨rfl, rfl⟩ := H
    go_enter Try.func21, Try.ntmps21
    go_wp2_with (first | ((with_reducible refine gate_callee (f := 19) rfl ?_); refine goesL_ (some 10) rfl rfl Try.func19 (by kernel_rfl) rfl #[.slice A0 l0.length c0] rfl (by (try simp only [List.map_toArray, List.map_cons, List.map_nil]); first | done | rfl | (simp only [List.length_drop, List.length_take]; rfl)) ?_; (with_reducible refine (bagnallref_RowsFault.calls k _ _ l0 t142 _ ?side1 ?side2 A3.out).mono ?_); (case side1 => repeat (first | exact HR0.out | (with_reducible refine Kd.C_alloc ?_ _) | (with_reducible refine Kd.C_drewN ?_ _) | (with_reducible refine Kd.C_drew ?_))); (case side2 => exact HC0.out); rintro e w14 ⟨rfl, hb⟩; refine ⟨_, rfl, ?_⟩; have n0_ := Aside0.mk (below_step (by repeat (first | (with_reducible first | exact HB.out | apply below_alloc | apply pw_below_drewN | apply below_drew1) | exact HB.out)) hb); clear HB; have HB := n0_; clear n0_; (try clear hb); (try clear hb2); (try clear hk); (try clear hi)))
    go_ret2
    exact ⟨by first | rfl | (simp [errW_none, errW_some] <;> rfl) | (simp [*, errW_none, errW_some] <;> rfl), by repeat (first | (with_reducible first | exact HB.out | apply below_alloc | apply pw_below_drewN | apply below_drew1) | exact HB.out)⟩

/-! ### stringslite_HasSuffix: function 65 -/
def stringslite_HasSuffix.f (a0 : ByteArray) (a1 : ByteArray) : Option (Bool) := if (a0.size : Int) ≥ (a1.size : Int) then (if 0 ≤ (wrap64 ((a0.size : Int) - (a1.size : Int))) then (if (wrap64 ((a0.size : Int) - (a1.size : Int))) ≤ (a0.size : Int) then (some ((a0.extract ((wrap64 ((a0.size : Int) - (a1.size : Int))) : Int).toNat a0.size).toList == a1.toList)) else (none)) else (none)) else (some false)
set_option maxHeartbeats 8000000 in
set_option maxRecDepth 100000 in
theorem stringslite_HasSuffix.calls (a0 : ByteArray) (a1 : ByteArray) (r : Bool) (w : World) (h : stringslite_HasSuffix.f a0 a1 = some r) :
    Calls Try.prog 65 #[.string a0, .string a1] w fun e w' => e = .returned (.bool r) ∧ Drawn0 w w' := by
  have H : (if (a0.size : Int) ≥ (a1.size : Int) then (if 0 ≤ (wrap64 ((a0.size : Int) - (a1.size : Int))) then (if (wrap64 ((a0.size : Int) - (a1.size : Int))) ≤ (a0.size : Int) then (some ((a0.extract ((wrap64 ((a0.size : Int) - (a1.size : Int))) : Int).toNat a0.size).toList == a1.toList)) else (none)) else (none)) else (some false)) = some r := h
  clear h
  by_cases c3 : (a0.size : Int) ≥ (a1.size : Int)
  · rw [if_pos c3] at H
    have c3b0 : decide ((a1.size : Int) ≤ (a0.size : Int)) = true := decide_eq_true c3
    have c3b1 : decide (a1.size ≤ a0.size) = true := decide_eq_true (Int.ofNat_le.mp c3)
    clear c3
    obtain ⟨ji4, hji4⟩ : ∃ j_ : Int, (wrap64 ((a0.size : Int) - (a1.size : Int))) = j_ := ⟨_, rfl⟩
    replace H : (if 0 ≤ (ji4) then (if (ji4) ≤ (a0.size : Int) then (some ((a0.extract ((ji4) : Int).toNat a0.size).toList == a1.toList)) else (none)) else (none)) = some r := by first | (rw [hji4] at H; exact H) | (simp only [hji4] at H ⊢; exact H)
    have hji4w : (IntKind.i64.wrap ((a0.size : Int) - (a1.size : Int))) = ji4 := (i64_w _).trans hji4
    by_cases c5 : 0 ≤ (ji4)
    · rw [if_pos c5] at H
      have c5b0 := eq_true c5
      have c5b1 : decide (0 ≤ (ji4)) = true := decide_eq_true c5
      clear c5
      by_cases c6 : (ji4) ≤ (a0.size : Int)
      · rw [if_pos c6] at H
        have c6b0 := eq_true c6
        have c6b1 : decide ((ji4) ≤ (a0.size : Int)) = true := decide_eq_true c6
        clear c6
        obtain rfl := Option.some.inj H
        go_enter Try.func65, Try.ntmps65
        go_wp2
        go_ret
        exact ⟨by first | rfl | (simp; done) | (simp only [← hji4] <;> (first | rfl | simp)) | (simp [*]; done), by repeat (first | exact Drawn0.refl _ | apply Drawn0.step)⟩
      · rw [if_neg c6] at H
        exact absurd H (by simp)
    · rw [if_neg c5] at H
      exact absurd H (by simp)
  · rw [if_neg c3] at H
    have c3b0 : decide ((a1.size : Int) ≤ (a0.size : Int)) = false := decide_eq_false c3
    have c3b1 : decide (a1.size ≤ a0.size) = false := decide_eq_false (fun h => c3 (Int.ofNat_le.mpr h))
    clear c3
    obtain rfl := Option.some.inj H
    go_enter Try.func65, Try.ntmps65
    go_wp2
    go_ret
    exact ⟨by first | rfl | (simp; done) | (simp [*]; done), by repeat (first | exact Drawn0.refl _ | apply Drawn0.step)⟩

/-! ### strings_HasSuffix: function 43 -/
def strings_HasSuffix.f (a0 : ByteArray) (a1 : ByteArray) : Option (Bool) := (stringslite_HasSuffix.f a0 a1).bind fun t145 => (some t145)
set_option maxHeartbeats 8000000 in
set_option maxRecDepth 100000 in
theorem strings_HasSuffix.calls (a0 : ByteArray) (a1 : ByteArray) (r : Bool) (w : World) (h : strings_HasSuffix.f a0 a1 = some r) :
    Calls Try.prog 43 #[.string a0, .string a1] w fun e w' => e = .returned (.bool r) ∧ Drawn0 w w' := by
  have H : ((stringslite_HasSuffix.f a0 a1).bind fun t145 => (some t145)) = some r := h
  clear h
  replace H := Option.bind_eq_some_iff.mp H
  obtain ⟨t145, A30, H⟩ := H
  replace H : (some t145) = some r := H
  have A3 := Aside0.mk A30
  clear A30
  obtain rfl := Option.some.inj H
  go_enter Try.func43, Try.ntmps43
  go_wp2_with (first | ((with_reducible refine gate_callee (f := 65) rfl ?_); refine goesL_ (some 7) rfl rfl Try.func65 (by kernel_rfl) rfl #[.string a0, .string a1] rfl (by (try simp only [List.map_toArray, List.map_cons, List.map_nil]); first | done | rfl | (simp only [List.length_drop, List.length_take]; rfl)) ?_; (with_reducible refine (stringslite_HasSuffix.calls a0 a1 t145 _ A3.out).mono ?_); rintro e w' ⟨rfl, ⟨nd, rfl⟩⟩; refine ⟨_, rfl, ?_⟩))
  go_ret
  exact ⟨by first | rfl | (simp; done) | (simp [*]; done), by repeat (first | exact Drawn0.refl _ | apply Drawn0.step)⟩

end Go.Proofs.Ytnjidfgjldkkcaa.Q
-- Written for this seat by a program of its session (xp.py over the kit's printer).
namespace Go.Proofs.Ytnjidfgjldkkcaa.Q
open Go.RowKit Go.Proofs.YtnjidfgjldkkcaaW.PrintWords Go.Proofs.YtnjidfgjldkkcaaW.PrintLast Go.Proofs.YtnjidfgjldkkcaaW.PrintMore
attribute [local go_sem] max2_int min2_int max_two min_two max_three min_three max_four min_four xq_geq xq_leq xq_gtr   -- for this text's walks alone
set_option linter.unusedVariables false
set_option linter.unusedSimpArgs false

/-! ### rows_Next: function 16 -/
def rows_Next.l0 : Nat → ByteArray → Option (ByteArray)
  | 0, _ => none
  | k + 1, x0 => (strings_HasSuffix.f x0 (⟨#[255]⟩ : ByteArray)).bind fun t101 => (if t101 = true then (if 0 ≤ (wrap64 ((x0.size : Int) - 1)) then (if (wrap64 ((x0.size : Int) - 1)) ≤ (x0.size : Int) then (rows_Next.l0 k (x0.extract 0 ((wrap64 ((x0.size : Int) - 1)) : Int).toNat)) else (none)) else (none)) else (if x0.toList = ([] : List UInt8) then (some (⟨#[]⟩ : ByteArray)) else (if 0 ≤ (wrap64 ((x0.size : Int) - 1)) then (if (wrap64 ((x0.size : Int) - 1)) ≤ (x0.size : Int) then (if (wrap64 ((x0.size : Int) - 1)) < (x0.size : Int) then ((some (([((bt x0 (wrap64 ((x0.size : Int) - 1))) + 1) % 256] : List Int) : List Int)).bind fun y102 => (if (x0.extract 0 ((wrap64 ((x0.size : Int) - 1)) : Int).toNat).size + (strOfNums y102).size ≤ 9223372036854775807 then (some ((x0.extract 0 ((wrap64 ((x0.size : Int) - 1)) : Int).toNat) ++ (strOfNums y102))) else (none))) else (none)) else (none)) else (none))))
def rows_Next.f (k : Nat) (a0 : ByteArray) : Option (ByteArray) := rows_Next.l0 k a0
theorem rows_Next.mono_l : ∀ k, (∀ y0, LeO (rows_Next.l0 k y0) (rows_Next.l0 (k + 1) y0))
  | 0 => fun _ r h => by simp [rows_Next.l0] at h
  | k + 1 => by
    have ih0 := rows_Next.mono_l k
    · intro y0
      unfold rows_Next.l0
      repeat' first
      | (with_reducible exact ih0 _)
      | (with_reducible exact LeO.refl _)
      | (with_reducible exact LeO.none _)
      | (with_reducible refine LeO.ite ?_ ?_)
      | (with_reducible refine LeO.bind ?_ (fun _ => ?_))
      | exact ih0 _
      | exact LeO.none _
      | refine LeO.ite ?_ ?_
      | refine LeO.bind ?_ (fun _ => ?_)
theorem rows_Next.mono : ∀ a0 k, LeO (rows_Next.f k a0) (rows_Next.f (k + 1) a0) := by
  intro a0 k
  have ih0 := rows_Next.mono_l k
  unfold rows_Next.f
  repeat' first
      | (with_reducible exact ih0 _)
      | (with_reducible exact LeO.refl _)
      | (with_reducible exact LeO.none _)
      | (with_reducible refine LeO.ite ?_ ?_)
      | (with_reducible refine LeO.bind ?_ (fun _ => ?_))
      | exact ih0 _
      | exact LeO.none _
      | refine LeO.ite ?_ ?_
      | refine LeO.bind ?_ (fun _ => ?_)
def rows_Next.T6 : Bool × List (List Nat × List Nat) := (true, [([], []), ([], []), ([0, 1], [0, 1]), ([], []), ([], []), ([3, 4], [3, 4]), ([5], [5]), ([6], [6]), ([7], [7]), ([2, 8], [2, 8]), ([9, 0, 1, 2, 3, 4, 5, 6, 7, 8, 9], [9])])
def rows_Next.B6 : List Nat := [0, 0, 3, 0, 0, 24, 56, 120, 248, 511, 1023]
theorem rows_Next.tab6 : rtab .any (opsOf Try.f16 6) = rows_Next.T6 := by kernel_rfl
theorem rows_Next.bits6 : waitsOk rows_Next.T6.2 rows_Next.B6 = true := by kernel_rfl
set_option maxHeartbeats 8000000 in
set_option maxRecDepth 100000 in
theorem rows_Next.calls (k : Nat) (a0 : ByteArray) (r : ByteArray) (w : World) (h : rows_Next.f k a0 = some r) :
    Calls Try.prog 16 #[.string a0] w fun e w' => e = .returned (.string r) ∧ Below w.heap.size w w' := by
  have HB := Aside0.mk (Below.refl w.heap.size w)
  have H : (rows_Next.l0 k a0) = some r := h
  clear h
  have H' := Aside0.mk H
  clear H
  go_enter Try.func16, Try.ntmps16
  go_wp2
  go_loopg [0] k (fun kq v0 w' => ∃ (x0_1 : ByteArray), v0 = .string x0_1 ∧ Aside0 (rows_Next.l0 kq x0_1 = some r) ∧ Aside0 (kq ≤ k) ∧ Aside0 (Below w.heap.size w w'))
  case atStart => exact ⟨(a0), (by first | rfl | (simp; done) | (simp [*]; done)), H', ⟨Nat.le_refl _⟩, ⟨by repeat (first | (with_reducible first | exact HB.out | apply below_alloc | apply pw_below_drewN | apply below_drew1) | exact HB.out)⟩⟩
  case round =>
    clear H'
    try clear c1
    obtain ⟨x0_1, rfl, HA, HK1, HB⟩ := hrel
    cases gk with
    | zero => exact absurd HA.out (by simp [rows_Next.l0])
    | succ k1 =>
      have H := HA.out
      clear HA
      simp only [rows_Next.l0] at H
      replace H := Option.bind_eq_some_iff.mp H
      obtain ⟨t101, A20, H⟩ := H
      replace H : (if t101 = true then (if 0 ≤ (wrap64 ((x0_1.size : Int) - 1)) then (if (wrap64 ((x0_1.size : Int) - 1)) ≤ (x0_1.size : Int) then (rows_Next.l0 k1 (x0_1.extract 0 ((wrap64 ((x0_1.size : Int) - 1)) : Int).toNat)) else (none)) else (none)) else (if x0_1.toList = ([] : List UInt8) then (some (⟨#[]⟩ : ByteArray)) else (if 0 ≤ (wrap64 ((x0_1.size : Int) - 1)) then (if (wrap64 ((x0_1.size : Int) - 1)) ≤ (x0_1.size : Int) then (if (wrap64 ((x0_1.size : Int) - 1)) < (x0_1.size : Int) then ((some (([((bt x0_1 (wrap64 ((x0_1.size : Int) - 1))) + 1) % 256] : List Int) : List Int)).bind fun y102 => (if (x0_1.extract 0 ((wrap64 ((x0_1.size : Int) - 1)) : Int).toNat).size + (strOfNums y102).size ≤ 9223372036854775807 then (some ((x0_1.extract 0 ((wrap64 ((x0_1.size : Int) - 1)) : Int).toNat) ++ (strOfNums y102))) else (none))) else (none)) else (none)) else (none)))) = some r := H
      have A2 := Aside0.mk A20
      clear A20
      by_cases c3 : t101 = true
      · subst c3
        have H1 : (if 0 ≤ (wrap64 ((x0_1.size : Int) - 1)) then (if (wrap64 ((x0_1.size : Int) - 1)) ≤ (x0_1.size : Int) then (rows_Next.l0 k1 (x0_1.extract 0 ((wrap64 ((x0_1.size : Int) - 1)) : Int).toNat)) else (none)) else (none)) = some r := by rw [if_pos rfl] at H; exact H
        clear H
        have H := H1
        clear H1
        obtain ⟨ji4, hji4⟩ : ∃ j_ : Int, (wrap64 ((x0_1.size : Int) - 1)) = j_ := ⟨_, rfl⟩
        replace H : (if 0 ≤ (ji4) then (if (ji4) ≤ (x0_1.size : Int) then (rows_Next.l0 k1 (x0_1.extract 0 ((ji4) : Int).toNat)) else (none)) else (none)) = some r := by first | (rw [hji4] at H; exact H) | (simp only [hji4] at H ⊢; exact H)
        (try rw [hji4] at A2)
        have hji4w : (IntKind.i64.wrap ((x0_1.size : Int) - 1)) = ji4 := (i64_w _).trans hji4
        by_cases c5 : 0 ≤ (ji4)
        · rw [if_pos c5] at H
          have c5b0 := eq_true c5
          have c5b1 : decide (0 ≤ (ji4)) = true := decide_eq_true c5
          clear c5
          by_cases c6 : (ji4) ≤ (x0_1.size : Int)
          · rw [if_pos c6] at H
            have c6b0 := eq_true c6
            have c6b1 : decide ((ji4) ≤ (x0_1.size : Int)) = true := decide_eq_true c6
            clear c6
            have H' := Aside0.mk H
            clear H
            go_wp2_with (first | ((with_reducible refine gate_callee (f := 43) rfl ?_); refine goesL_ (some 5) rfl rfl Try.func43 (by kernel_rfl) rfl #[.string x0_1, .string (⟨#[255]⟩ : ByteArray)] rfl (by (try simp only [List.map_toArray, List.map_cons, List.map_nil]); first | done | rfl | (simp only [List.length_drop, List.length_take]; rfl)) ?_; (with_reducible refine (strings_HasSuffix.calls x0_1 (⟨#[255]⟩ : ByteArray) true _ A2.out).mono ?_); rintro e w' ⟨rfl, ⟨nd, rfl⟩⟩; refine ⟨_, rfl, ?_⟩))
            go_roundg k1
            case measure => have := HK1.out; omega
            case rel => exact ⟨(x0_1.extract 0 ((ji4) : Int).toNat), (by first | rfl | (simp; done) | (simp only [← hji4] <;> (first | rfl | simp)) | (simp [*]; done)), H', ⟨by have := HK1.out; omega⟩, ⟨by repeat (first | (with_reducible first | exact HB.out | apply below_alloc | apply pw_below_drewN | apply below_drew1) | exact HB.out)⟩⟩
          · rw [if_neg c6] at H
            exact absurd H (by simp)
        · rw [if_neg c5] at H
          exact absurd H (by simp)
      · replace c3 := Bool.eq_false_iff.mpr c3
        subst c3
        have H1 : (if x0_1.toList = ([] : List UInt8) then (some (⟨#[]⟩ : ByteArray)) else (if 0 ≤ (wrap64 ((x0_1.size : Int) - 1)) then (if (wrap64 ((x0_1.size : Int) - 1)) ≤ (x0_1.size : Int) then (if (wrap64 ((x0_1.size : Int) - 1)) < (x0_1.size : Int) then ((some (([((bt x0_1 (wrap64 ((x0_1.size : Int) - 1))) + 1) % 256] : List Int) : List Int)).bind fun y102 => (if (x0_1.extract 0 ((wrap64 ((x0_1.size : Int) - 1)) : Int).toNat).size + (strOfNums y102).size ≤ 9223372036854775807 then (some ((x0_1.extract 0 ((wrap64 ((x0_1.size : Int) - 1)) : Int).toNat) ++ (strOfNums y102))) else (none))) else (none)) else (none)) else (none))) = some r := by rw [if_neg (show ¬ (false = true) by decide)] at H; exact H
        clear H
        have H := H1
        clear H1
        by_cases c7 : x0_1.toList = ([] : List UInt8)
        · rw [if_pos c7] at H
          have c7b0 : (x0_1.toList == ([] : List UInt8)) = true := beq_iff_eq.mpr c7
          have c7b1 : (x0_1.toList != ([] : List UInt8)) = false := bne_eq_false_iff_eq.mpr c7
          clear c7
          obtain rfl := Option.some.inj H
          go_wp2_with (first | ((with_reducible refine gate_callee (f := 43) rfl ?_); refine goesL_ (some 5) rfl rfl Try.func43 (by kernel_rfl) rfl #[.string x0_1, .string (⟨#[255]⟩ : ByteArray)] rfl (by (try simp only [List.map_toArray, List.map_cons, List.map_nil]); first | done | rfl | (simp only [List.length_drop, List.length_take]; rfl)) ?_; (with_reducible refine (strings_HasSuffix.calls x0_1 (⟨#[255]⟩ : ByteArray) false _ A2.out).mono ?_); rintro e w' ⟨rfl, ⟨nd, rfl⟩⟩; refine ⟨_, rfl, ?_⟩))
          go_ret
          exact ⟨by first | rfl | (simp [errW_none, errW_some] <;> rfl) | (simp [*, errW_none, errW_some] <;> rfl), by repeat (first | (with_reducible first | exact HB.out | apply below_alloc | apply pw_below_drewN | apply below_drew1) | exact HB.out)⟩
        · rw [if_neg c7] at H
          have c7b0 : (x0_1.toList == ([] : List UInt8)) = false := beq_eq_false_iff_ne.mpr c7
          have c7b1 : (x0_1.toList != ([] : List UInt8)) = true := bne_iff_ne.mpr c7
          obtain ⟨ji8, hji8⟩ : ∃ j_ : Int, (wrap64 ((x0_1.size : Int) - 1)) = j_ := ⟨_, rfl⟩
          replace H : (if 0 ≤ (ji8) then (if (ji8) ≤ (x0_1.size : Int) then (if (ji8) < (x0_1.size : Int) then ((some (([((bt x0_1 (ji8)) + 1) % 256] : List Int) : List Int)).bind fun y102 => (if (x0_1.extract 0 ((ji8) : Int).toNat).size + (strOfNums y102).size ≤ 9223372036854775807 then (some ((x0_1.extract 0 ((ji8) : Int).toNat) ++ (strOfNums y102))) else (none))) else (none)) else (none)) else (none)) = some r := by first | (rw [hji8] at H; exact H) | (simp only [hji8] at H ⊢; exact H)
          (try rw [hji8] at A2)
          have hji8w : (IntKind.i64.wrap ((x0_1.size : Int) - 1)) = ji8 := (i64_w _).trans hji8
          by_cases c9 : 0 ≤ (ji8)
          · rw [if_pos c9] at H
            have c9b0 := eq_true c9
            have c9b1 : decide (0 ≤ (ji8)) = true := decide_eq_true c9
            clear c9
            by_cases c10 : (ji8) ≤ (x0_1.size : Int)
            · rw [if_pos c10] at H
              have c10b0 := eq_true c10
              have c10b1 : decide ((ji8) ≤ (x0_1.size : Int)) = true := decide_eq_true c10
              clear c10
              by_cases c11 : (ji8) < (x0_1.size : Int)
              · rw [if_pos c11] at H
                have c11b0 : decide ((ji8) < (x0_1.size : Int)) = true := decide_eq_true c11
                clear c11
                obtain ⟨y102, hy102⟩ : ∃ y_ : List Int, y_ = (([((bt x0_1 (ji8)) + 1) % 256] : List Int)) := ⟨_, rfl⟩
                replace H : (if (x0_1.extract 0 ((ji8) : Int).toNat).size + (strOfNums y102).size ≤ 9223372036854775807 then (some ((x0_1.extract 0 ((ji8) : Int).toNat) ++ (strOfNums y102))) else (none)) = some r := by first | (rw [hy102]; with_reducible exact H) | (have H2_ := (Option.bind_some _ _).symm.trans H; rw [hy102]; with_reducible exact H2_) | (have H2_ := (Option.bind_some _ _).symm.trans H; with_reducible exact H2_) | with_reducible exact H | (rw [hy102]; exact H) | exact H
                have Ny102 := Aside0.mk hy102
                clear hy102
                by_cases c13 : (x0_1.extract 0 ((ji8) : Int).toNat).size + (strOfNums y102).size ≤ 9223372036854775807
                · rw [if_pos c13] at H
                  have c13b0 := eq_true c13
                  have c13b1 : decide ((x0_1.extract 0 ((ji8) : Int).toNat).size + (strOfNums y102).size ≤ 9223372036854775807) = true := decide_eq_true c13
                  try have c13b2 : (9223372036854775807 < (x0_1.extract 0 ((ji8) : Int).toNat).size + (strOfNums y102).size) = False := eq_false (Nat.not_lt.2 c13)
                  try have c13b3 : (9223372036854775807 < ((ji8) : Int).toNat + (strOfNums y102).size) = False := by (have q_ : (ji8) ≤ (x0_1.size : Int) := of_decide_eq_true (by assumption)); (have p_ : 0 ≤ (ji8) := of_decide_eq_true (by assumption)); (have s_ : (x0_1.extract 0 ((ji8) : Int).toNat).size = ((ji8) : Int).toNat := by (rw [ByteArray.size_extract]; omega)); (have h_ := c13); (rw [s_] at h_); exact eq_false (Nat.not_lt.2 h_)
                  obtain rfl := Option.some.inj H
                  try go_wp2_with (first | ((with_reducible refine gate_callee (f := 43) rfl ?_); refine goesL_ (some 5) rfl rfl Try.func43 (by kernel_rfl) rfl #[.string x0_1, .string (⟨#[255]⟩ : ByteArray)] rfl (by (try simp only [List.map_toArray, List.map_cons, List.map_nil]); first | done | rfl | (simp only [List.length_drop, List.length_take]; rfl)) ?_; (with_reducible refine (strings_HasSuffix.calls x0_1 (⟨#[255]⟩ : ByteArray) false _ A2.out).mono ?_); rintro e w' ⟨rfl, ⟨nd, rfl⟩⟩; refine ⟨_, rfl, ?_⟩))
                  (try (rw [drewN_self wr]; generalize hq_ : World.drewN wr _ = wr; have n0_ : Aside0 (Below w.heap.size w wr) := ⟨by rw [← hq_]; exact (by repeat (first | (with_reducible first | exact HB.out | apply below_alloc | apply pw_below_drewN | apply below_drew1) | exact HB.out))⟩; clear HB hq_; have HB := n0_; clear n0_))
                  have n0_ := Aside0.mk (below_drew1 HB.out)
                  clear HB
                  have HB := n0_
                  clear n0_
                  have p12 : 0 ≤ ((ji8) : Int) := of_decide_eq_true (by first | (with_reducible assumption) | assumption)
                  have q12 : (ji8) < (x0_1.size : Int) := of_decide_eq_true (by first | (with_reducible assumption) | assumption)
                  have hx12 := bt_at x0_1 (ji8)
                  replace p12 := eq_true p12
                  replace q12 := eq_true q12
                  refine start_ (n := 11) (S := fun w' => True) (ds := []) #[false, false, false, false, false, false, false, false, false, false, false] (by kernel_rfl) rfl rfl trivial (fun hHeld => ?_); refine with_tabW rows_Next.tab6 rows_Next.bits6 (fun HT_ HW_ => ?_)
                  generalize wr.drew = w14 at HB hHeld ⊢
                  refine pure_ (i := 0) (N := some 16) (v := ?_) (a' := ?_) #[true, false, false, false, false, false, false, false, false, false, false] rfl rfl (any_of HT_.out (by kernel_rfl)) (fun _ _ _ h => h) (Or.inl ⟨by rfl, ?_⟩) ?_ ?_
                  rotate_left
                  · intro w'
                    go_simp
                    with_reducible rfl
                  rotate_left
                  · simp only [Act.put, List.setIfInBounds_toArray, List.set_cons_zero, List.set_cons_succ, i64_w, i32_w]
                    rfl
                  refine pure_ (i := 1) (N := some 17) (v := ?_) (a' := ?_) #[true, true, false, false, false, false, false, false, false, false, false] rfl rfl (any_of HT_.out (by kernel_rfl)) (fun _ _ _ h => h) (Or.inl ⟨by rfl, ?_⟩) ?_ ?_
                  rotate_left
                  · intro w'
                    go_simp
                    with_reducible rfl
                  rotate_left
                  · simp only [Act.put, List.setIfInBounds_toArray, List.set_cons_zero, List.set_cons_succ, i64_w, i32_w]
                    rfl
                  refine pure_ (i := 2) (N := some 18) (v := ?_) (a' := ?_) #[true, true, true, false, false, false, false, false, false, false, false] rfl rfl (any_of HT_.out (by kernel_rfl)) (fun _ _ _ h => h) (Or.inl ⟨by rfl, ?_⟩) ?_ ?_
                  rotate_left
                  · intro w'
                    go_simp
                    with_reducible rfl
                  rotate_left
                  · simp only [Act.put, List.setIfInBounds_toArray, List.set_cons_zero, List.set_cons_succ, i64_w, i32_w]
                    rfl
                  refine pure_ (i := 3) (N := some 19) (v := ?_) (a' := ?_) #[true, true, true, true, false, false, false, false, false, false, false] rfl rfl (any_of HT_.out (by kernel_rfl)) (fun _ _ _ h => h) (Or.inl ⟨by rfl, ?_⟩) ?_ ?_
                  rotate_left
                  · intro w'
                    go_simp
                    with_reducible rfl
                  rotate_left
                  · simp only [Act.put, List.setIfInBounds_toArray, List.set_cons_zero, List.set_cons_succ, i64_w, i32_w]
                    rfl
                  refine pure_ (i := 4) (N := some 20) (v := ?_) (a' := ?_) #[true, true, true, true, true, false, false, false, false, false, false] rfl rfl (any_of HT_.out (by kernel_rfl)) (fun _ _ _ h => h) (Or.inl ⟨by rfl, ?_⟩) ?_ ?_
                  rotate_left
                  · intro w'
                    go_simp
                    with_reducible rfl
                  rotate_left
                  · simp only [Act.put, List.setIfInBounds_toArray, List.set_cons_zero, List.set_cons_succ, i64_w, i32_w]
                    rfl
                  refine take_ (i := 5) (N := some 21) (v := ?_) (a' := ?_) #[true, true, true, true, true, true, false, false, false, false, false] rfl rfl (take_ofW HT_.out HW_.out (by kernel_rfl)) (fun _ _ _ h => h) (Or.inl ⟨by rfl, ?_⟩) hHeld ?_ ?_
                  rotate_left
                  · intro w' _
                    go_simp
                    with_reducible rfl
                  rotate_left
                  · simp only [Act.put, List.setIfInBounds_toArray, List.set_cons_zero, List.set_cons_succ, i64_w, i32_w]
                    rfl
                  refine pure_ (i := 6) (N := some 22) (v := ?_) (a' := ?_) #[true, true, true, true, true, true, true, false, false, false, false] rfl rfl (any_of HT_.out (by kernel_rfl)) (fun _ _ _ h => h) (Or.inl ⟨by rfl, ?_⟩) ?_ ?_
                  rotate_left
                  · intro w'
                    go_simp
                    with_reducible rfl
                  rotate_left
                  · simp only [Act.put, List.setIfInBounds_toArray, List.set_cons_zero, List.set_cons_succ, i64_w, i32_w]
                    rfl
                  refine one_ (i := 7) (N := some 23) #[true, true, true, true, true, true, true, true, false, false, false] rfl rfl (one_of HT_.out (by kernel_rfl)) (by decide) (fun K hK => ?_)
                  refine Kd.R_lit_step (Kd.int .u8) _ 5 ?hg (N := 23) ?hd (xs := ([((bt x0_1 (ji8)) + 1) % 256] : List Int)) (inner := [.int .u8 (((bt x0_1 (ji8)) + 1) % 256)]) (ok := fun _ => True) (okp := fun _ => True) ?hr ?hp (fun _ hk => hk) trivial (Below.refl _ _) (Nat.le_refl _) (by simp) ?_; (case hd => rfl); (case hg => rfl); (case hr => first | (go_simp; done) | (go_simp; rfl)); (case hp => exact (Reps.one (show Kd.M (Kd.int .u8) _ _ _ (((bt x0_1 (ji8)) + 1) % 256) [.int .u8 (((bt x0_1 (ji8)) + 1) % 256)] from rfl) (Reps.none _ _)))
                  intro v103 w15 ho16 hb hg_ hnew_
                  clear hg_ hnew_
                  (first | rw [← Ny102.out] at ho16 | (simp only [Int.reduceToNat] at ho16; rw [← Ny102.out] at ho16))
                  have n0_ := Aside0.mk (Kd.R_lower ho16 (below_size (by repeat (first | (with_reducible first | exact HB.out | apply below_alloc | apply pw_below_drewN | apply below_drew1) | exact HB.out))))
                  have n1_ := Aside0.mk (below_step (by repeat (first | (with_reducible first | exact HB.out | apply below_alloc | apply pw_below_drewN | apply below_drew1) | exact HB.out)) hb)
                  clear HB
                  have HO104 := n0_
                  have HB := n1_
                  clear n0_ n1_
                  clear hb ho16
                  refine hK.out _ _ trivial (fun hHeld => ?_)
                  clear hK K
                  refine norm_ (a' := ?_) ?_ ?_
                  rotate_left
                  · show Act.put _ (some 23) _ = _
                    simp only [Act.put, List.setIfInBounds_toArray, List.set_cons_zero, List.set_cons_succ, i64_w, i32_w]
                    rfl
                  refine one_ (i := 8) (N := some 24) #[true, true, true, true, true, true, true, true, true, false, false] rfl rfl (one_of HT_.out (by kernel_rfl)) (by decide) (fun K hK => ?_)
                  have hcv17 := own_string (P := Try.prog) Try.underlying36 Try.underlying5 Try.underlying9 (Kd.own_of_R HO104.out)
                  refine value_ (w1 := ?_) (v := ?_) (by rfl) rfl ?_ ?_
                  rotate_left 2
                  · go_simp
                    constructor
                    · rfl
                    · rfl
                  clear hcv17
                  refine hK.out _ _ trivial (fun hHeld => ?_)
                  clear hK K
                  refine norm_ (a' := ?_) ?_ ?_
                  rotate_left
                  · show Act.put _ (some 24) _ = _
                    simp only [Act.put, List.setIfInBounds_toArray, List.set_cons_zero, List.set_cons_succ, i64_w, i32_w]
                    rfl
                  refine pure_ (i := 9) (N := some 25) (v := ?_) (a' := ?_) #[true, true, true, true, true, true, true, true, true, true, false] rfl rfl (any_of HT_.out (by kernel_rfl)) (fun _ _ _ h => h) (Or.inl ⟨by rfl, ?_⟩) ?_ ?_
                  rotate_left
                  · intro w'
                    go_simp
                    with_reducible rfl
                  rotate_left
                  · simp only [Act.put, List.setIfInBounds_toArray, List.set_cons_zero, List.set_cons_succ, i64_w, i32_w]
                    rfl
                  refine pure_ (i := 10) (N := some 2) (v := ?_) (a' := ?_) #[true, true, true, true, true, true, true, true, true, true, true] rfl rfl (any_of HT_.out (by kernel_rfl)) (fun _ _ _ h => h) (Or.inl ⟨by rfl, ?_⟩) ?_ ?_
                  rotate_left
                  · intro w'
                    go_simp
                    with_reducible rfl
                  rotate_left
                  · simp only [Act.put, List.setIfInBounds_toArray, List.set_cons_zero, List.set_cons_succ, i64_w, i32_w]
                    rfl
                  refine done_ (done_of HT_.out (by kernel_rfl)) ?_
                  try go_wp2
                  go_ret
                  exact ⟨by first | rfl | (simp [errW_none, errW_some] <;> rfl) | (simp only [← hji8]; first | rfl | (simp [errW_none, errW_some] <;> rfl)) | (simp [*, errW_none, errW_some] <;> rfl), by repeat (first | (with_reducible first | exact HB.out | apply below_alloc | apply pw_below_drewN | apply below_drew1) | exact HB.out)⟩
                · rw [if_neg c13] at H
                  exact absurd H (by simp)
              · rw [if_neg c11] at H
                exact absurd H (by simp)
            · rw [if_neg c10] at H
              exact absurd H (by simp)
          · rw [if_neg c9] at H
            exact absurd H (by simp)

end Go.Proofs.Ytnjidfgjldkkcaa.Q
/- bagnallref.RowsNext, walked: for every text of at most 2^47 bytes; and what it answers. -/
namespace Go.Proofs.Ytnjidfgjldkkcaa.Q
open Go.RowKit Go.Proofs.YtnjidfgjldkkcaaW.PrintWords Go.Proofs.YtnjidfgjldkkcaaW.PrintLast Go.Proofs.YtnjidfgjldkkcaaW.PrintMore
/-- How many bytes are left behind the last one that is not 255. -/
def trimLen (s : ByteArray) : Nat → Nat
  | 0 => 0
  | n + 1 => if bt s (n : Int) = 255 then trimLen s n else n + 1
/-- The first n bytes, the last of them one more. -/
def raised (s : ByteArray) : Nat → List Int
  | 0 => []
  | n + 1 => ((bytesOf s).take (n + 1)).set n ((bt s (n : Int) + 1) % 256)
def bagnallref_RowsNext.v (s : ByteArray) : ByteArray := strOfNums (raised s (trimLen s s.size))

theorem cell_bytes (w : World) (s : ByteArray) (j : Nat) (hj : j < s.size) : (Lib.bytesWorld w 5 s).cell? ⟨w.heap.size, j, none⟩ = some (.int .u8 (bt s (j : Int))) := by
  rw [Lib.bytesWorld_cell w 5 s j hj, ← rd_bytesOf]
  have h' : j < s.data.toList.length := by rw [data_length]; exact hj
  simp [rd, bytesOf, List.getD_eq_getElem?_getD, List.getElem?_eq_getElem h']
theorem frozen_bytes (w : World) (s : ByteArray) (j : Nat) (hj : j < s.size) : (Lib.bytesWorld w 5 s).frozen? ⟨w.heap.size, j, none⟩ = false := by
  have h := Lib.bytesWorld_at_new w 5 s
  have hz : s.size ≤ (Lib.bytesCells w 5 s).size := by
    unfold Lib.bytesCells
    rw [Array.size_append, Array.size_map]
    exact Nat.le_add_right _ _
  unfold World.frozen?
  simp only [h]
  simp
  omega
theorem raised_reads {W : World} {g n : Nat} (s : ByteArray) (hn : n + 1 ≤ s.size) (hs : s.size ≤ 140737488351232) (hc : ∀ j : Nat, j < s.size → W.cell? ⟨g, j, none⟩ = some (.int .u8 (bt s (j : Int)))) :
    ReadsInt (W.setCell ⟨g, n, none⟩ (.int .u8 ((bt s (n : Int) + 1) % 256))) .u8 (some ⟨g, 0, none⟩) (n + 1) (raised s (n + 1)) := by
  have hl : (bytesOf s).length = s.size := bytesOf_length s
  refine ⟨by simp [raised]; omega, by omega, fun _ => ⟨_, rfl, fun j hj => ?_⟩⟩
  rw [add_plain]
  have hj' : j < (bytesOf s).length := by omega
  by_cases e : j = n
  · subst e
    rw [World.cell?_setCell_same (h := hc j (by omega))]
    congr 2
    have hlt : j < (((bytesOf s).take (j + 1)).set j ((bt s (j : Int) + 1) % 256)).length := by simp; omega
    unfold raised
    rw [List.getD_eq_getElem?_getD, List.getElem?_eq_getElem hlt, List.getElem_set_self]
    rfl
  · rw [World.cell?_setCell_other (h := fun (h : (⟨g, n, none⟩ : Addr) = ⟨g, j, none⟩) => e (by injection h with _ h2 _; exact h2.symm)), hc j (by omega)]
    congr 2
    rw [← rd_bytesOf]
    unfold rd raised
    rw [List.getD_eq_getElem?_getD, List.getD_eq_getElem?_getD, List.getElem?_set_ne (Ne.symm e), List.getElem?_take, if_pos (by omega), Int.toNat_natCast]
set_option maxRecDepth 100000 in
set_option maxHeartbeats 1600000 in
theorem RowsNext_walk (s : ByteArray) (w : World) (hs : s.size ≤ 140737488351232) :
    Calls Try.prog 17 #[.string s] w fun e w' => e = .returned (.string (bagnallref_RowsNext.v s)) ∧ Below w.heap.size w w' := by
  have kc := fun (w : World) => Lib.run_convert_string_bytes (P := Try.prog) w 9 36 5 s Try.underlying9 Try.underlying36 Try.underlying5
  go_enter Try.func17, Try.ntmps17
  go_wp2
  have hb := bytes_below (Below.refl w.heap.size w) (Nat.le_refl _) 5 s
  have hc : Hid (∀ j : Nat, j < s.size → (Lib.bytesWorld w 5 s).cell? ⟨w.heap.size, j, none⟩ = some (.int .u8 (bt s (j : Int)))) := cell_bytes w s
  have hz : Hid (∀ j : Nat, j < s.size → (Lib.bytesWorld w 5 s).frozen? ⟨w.heap.size, j, none⟩ = false) := frozen_bytes w s
  have hC : s.size ≤ grownCap w s.size 0 5 := grownCap_ge w s.size 0 5
  generalize Lib.bytesWorld w 5 s = W1 at *
  clear kc
  generalize grownCap w s.size 0 5 = C at *
  go_loop [3] (fun v => ∃ n : Nat, n ≤ s.size ∧ Aside0 (trimLen s n = trimLen s s.size) ∧ v = .slice (some ⟨w.heap.size, 0, none⟩) n C) (fun v => match v with | .slice _ n _ => n | _ => 0)
  case atStart => exact ⟨s.size, Nat.le_refl _, ⟨rfl⟩, rfl⟩
  case round =>
    obtain ⟨n, hn, ht, rfl⟩ := hrel
    cases n with
    | zero =>
      have ks := fun (W : World) => string_of_reads (P := Try.prog) (w := W) (A := some ⟨w.heap.size, 0, none⟩) (n := 0) (c := C) (xs := []) Try.underlying36 Try.underlying5 Try.underlying9 ⟨rfl, by simp, fun h => absurd h (by simp)⟩
      go_wp2
      go_ret
      refine ⟨?_, hb⟩
      unfold bagnallref_RowsNext.v
      rw [← ht.out]
      rfl
    | succ n =>
      have hcn := hc.out n (by omega)
      have hzn := hz.out n (by omega)
      have hnC : n ≤ C := by omega
      by_cases h255 : bt s (n : Int) = 255
      · have hbt : (bt s (n : Int) == 255) = true := by simpa using h255
        have HT : Aside0 (trimLen s n = trimLen s s.size) := ⟨by rw [← ht.out, trimLen, if_pos h255]⟩
        go_wp2
        go_round
        case rel => exact ⟨n, by omega, HT, rfl⟩
        case measure => show n < n + 1; omega
      · have hbt : (bt s (n : Int) == 255) = false := by simpa using h255
        have ks := string_of_reads (P := Try.prog) (c := C) Try.underlying36 Try.underlying5 Try.underlying9 (raised_reads s hn hs hc.out)
        have HT : Aside0 (trimLen s s.size = n + 1) := ⟨by rw [← ht.out, trimLen, if_neg h255]⟩
        go_wp2
        go_ret
        refine ⟨?_, hb.setCell (Nat.le_refl _) _⟩
        unfold bagnallref_RowsNext.v
        rw [HT.out]
        rfl

def bagnallref_RowsNext.f (s : ByteArray) : Option ByteArray := if s.size ≤ 140737488351232 then some (bagnallref_RowsNext.v s) else none
theorem bagnallref_RowsNext.calls (a0 : ByteArray) (r : ByteArray) (w : World) (h : bagnallref_RowsNext.f a0 = some r) :
    Calls Try.prog 17 #[.string a0] w fun e w' => e = .returned (.string r) ∧ Below w.heap.size w w' := by
  unfold bagnallref_RowsNext.f at h
  split at h
  · rename_i hs
    obtain rfl := Option.some.inj h
    exact RowsNext_walk a0 w hs
  · cases h
end Go.Proofs.Ytnjidfgjldkkcaa.Q
-- Written for this seat by a program of its session (xp.py over the kit's printer).
namespace Go.Proofs.Ytnjidfgjldkkcaa.Q
open Go.RowKit Go.Proofs.YtnjidfgjldkkcaaW.PrintWords Go.Proofs.YtnjidfgjldkkcaaW.PrintLast Go.Proofs.YtnjidfgjldkkcaaW.PrintMore
attribute [local go_sem] max2_int min2_int max_two min_two max_three min_three max_four min_four xq_geq xq_leq xq_gtr   -- for this text's walks alone
set_option linter.unusedVariables false
set_option linter.unusedSimpArgs false

/-! ### bagnalllaw_RowsNexts: function 3 -/
def bagnalllaw_RowsNexts.f (k : Nat) (a0 : ByteArray) : Option (Bool) := (rows_Next.f k a0).bind fun t101 => ((bagnallref_RowsNext.f a0).bind fun t102 => (some (t101.toList == t102.toList)))
theorem bagnalllaw_RowsNexts.mono : ∀ a0 k, LeO (bagnalllaw_RowsNexts.f k a0) (bagnalllaw_RowsNexts.f (k + 1) a0) := by
  intro a0 k
  unfold bagnalllaw_RowsNexts.f
  repeat' first
      | (with_reducible exact rows_Next.mono _ _)
      | (with_reducible exact LeO.refl _)
      | (with_reducible exact LeO.none _)
      | (with_reducible refine LeO.ite ?_ ?_)
      | (with_reducible refine LeO.bind ?_ (fun _ => ?_))
      | exact rows_Next.mono _ _
      | exact LeO.none _
      | refine LeO.ite ?_ ?_
      | refine LeO.bind ?_ (fun _ => ?_)
set_option maxHeartbeats 8000000 in
set_option maxRecDepth 100000 in
theorem bagnalllaw_RowsNexts.calls (k : Nat) (a0 : ByteArray) (r : Bool) (w : World) (h : bagnalllaw_RowsNexts.f k a0 = some r) :
    Calls Try.prog 3 #[.string a0] w fun e w' => e = .returned (.bool r) ∧ Below w.heap.size w w' := by
  have HB := Aside0.mk (Below.refl w.heap.size w)
  have H : ((rows_Next.f k a0).bind fun t101 => ((bagnallref_RowsNext.f a0).bind fun t102 => (some (t101.toList == t102.toList)))) = some r := h
  clear h
  replace H := Option.bind_eq_some_iff.mp H
  obtain ⟨t101, A20, H⟩ := H
  replace H : ((bagnallref_RowsNext.f a0).bind fun t102 => (some (t101.toList == t102.toList))) = some r := H
  have A2 := Aside0.mk A20
  clear A20
  replace H := Option.bind_eq_some_iff.mp H
  obtain ⟨t102, A30, H⟩ := H
  replace H : (some (t101.toList == t102.toList)) = some r := H
  have A3 := Aside0.mk A30
  clear A30
  obtain rfl := Option.some.inj H
  go_enter Try.func3, Try.ntmps3
  go_wp2_with (first | ((with_reducible refine gate_callee (f := 16) rfl ?_); refine goesL_ (some 4) rfl rfl Try.func16 (by kernel_rfl) rfl #[.string a0] rfl (by (try simp only [List.map_toArray, List.map_cons, List.map_nil]); first | done | rfl | (simp only [List.length_drop, List.length_take]; rfl)) ?_; (with_reducible refine (rows_Next.calls k a0 t101 _ A2.out).mono ?_); rintro e w4 ⟨rfl, hb⟩; refine ⟨_, rfl, ?_⟩; have n0_ := Aside0.mk (below_step (by repeat (first | (with_reducible first | exact HB.out | apply below_alloc | apply pw_below_drewN | apply below_drew1) | exact HB.out)) hb); clear HB; have HB := n0_; clear n0_; (try clear hb); (try clear hb2); (try clear hk); (try clear hi)) | ((with_reducible refine gate_callee (f := 17) rfl ?_); refine goesL_ (some 6) rfl rfl Try.func17 (by kernel_rfl) rfl #[.string a0] rfl (by (try simp only [List.map_toArray, List.map_cons, List.map_nil]); first | done | rfl | (simp only [List.length_drop, List.length_take]; rfl)) ?_; (with_reducible refine (bagnallref_RowsNext.calls a0 t102 _ A3.out).mono ?_); rintro e w5 ⟨rfl, hb⟩; refine ⟨_, rfl, ?_⟩; have n0_ := Aside0.mk (below_step (by repeat (first | (with_reducible first | exact HB.out | apply below_alloc | apply pw_below_drewN | apply below_drew1) | exact HB.out)) hb); clear HB; have HB := n0_; clear n0_; (try clear hb); (try clear hb2); (try clear hk); (try clear hi)))
  go_ret
  exact ⟨by first | rfl | (simp [errW_none, errW_some] <;> rfl) | (simp [*, errW_none, errW_some] <;> rfl), by repeat (first | (with_reducible first | exact HB.out | apply below_alloc | apply pw_below_drewN | apply below_drew1) | exact HB.out)⟩

end Go.Proofs.Ytnjidfgjldkkcaa.Q
/- rows.Next answers as the reference does, for every text; no condition. -/
namespace Go.Proofs.Ytnjidfgjldkkcaa.Pure
open Go.RowKit Go.Proofs.Ytnjidfgjldkkcaa.Q Go.Proofs.YtnjidfgjldkkcaaW.PrintWords Go.Proofs.Ytnjidfgjldkkcaa.Plain

theorem head_bytes (s : ByteArray) {n : Nat} : bytesOf (s.extract 0 n) = (bytesOf s).take n := by rw [bytes_extract, List.drop_zero]
theorem head_size (s : ByteArray) {n : Nat} (hn : n ≤ s.size) : (s.extract 0 n).size = n := by
  rw [← size_bytes, head_bytes, List.length_take, size_bytes]; omega
theorem head_bt (s : ByteArray) {n i : Nat} (hn : n ≤ s.size) (hi : i < n) : bt (s.extract 0 n) (i : Int) = bt s (i : Int) := by
  rw [bt_get (by rw [head_size s hn]; exact hi), bt_get (by omega)]
  simp only [head_bytes, List.getElem_take]
theorem head_head (s : ByteArray) {n m : Nat} (h : m ≤ n) : (s.extract 0 n).extract 0 m = s.extract 0 m := by
  apply str_inj
  rw [head_bytes, head_bytes, head_bytes, List.take_take, Nat.min_eq_left h]
theorem head_whole (s : ByteArray) : s.extract 0 s.size = s := by
  apply str_inj
  rw [head_bytes, List.take_of_length_le (by rw [size_bytes]; exact Nat.le_refl _)]

theorem suffix_zero (y : ByteArray) (h : y.size = 0) : strings_HasSuffix.f y (⟨#[255]⟩ : ByteArray) = some false := by
  unfold strings_HasSuffix.f stringslite_HasSuffix.f
  rw [if_neg (by have : (⟨#[255]⟩ : ByteArray).size = 1 := rfl; omega)]
  rfl
theorem suffix_succ (y : ByteArray) (m : Nat) (h : y.size = m + 1) (hm : m < 9223372036854775807) : strings_HasSuffix.f y (⟨#[255]⟩ : ByteArray) = some (decide (bt y (m : Int) = 255)) := by
  have e1 : (⟨#[255]⟩ : ByteArray).size = 1 := rfl
  have e2 : wrap64 ((y.size : Int) - ((⟨#[255]⟩ : ByteArray).size : Int)) = (m : Int) := by rw [e1, wrap_in (by omega) (by omega)]; omega
  unfold strings_HasSuffix.f stringslite_HasSuffix.f
  rw [if_pos (by omega), e2, if_pos (by omega), if_pos (by omega), Option.bind_some, Int.toNat_natCast]
  congr 1
  rw [Bool.eq_iff_iff, beq_iff_eq, decide_eq_true_eq, toList_inj]
  have e3 : bytesOf (y.extract m y.size) = [bt y (m : Int)] := by
    rw [bytes_extract, List.take_of_length_le (by rw [size_bytes]; exact Nat.le_refl _), bt_get (by omega : m < y.size), List.drop_eq_getElem_cons (by rw [size_bytes]; omega), List.drop_of_length_le (by rw [size_bytes]; omega)]
  have e4 : bytesOf (⟨#[255]⟩ : ByteArray) = [255] := rfl
  constructor
  · intro h
    have := e3.symm.trans ((congrArg bytesOf h).trans e4)
    simpa using this
  · intro h
    apply str_inj
    rw [e3, e4, h]

theorem next_ev (s : ByteArray) (hs : s.size ≤ 140737488351232) : ∀ n, n ≤ s.size → Ev (fun k => rows_Next.l0 k (s.extract 0 n)) (strOfNums (Q.raised s (trimLen s n)))
  | 0, hn => by
    have h0 := head_size s hn
    refine Ev.step (fun k => rfl) (Ev.bind (Ev.lift (suffix_zero _ h0)) (Ev.neg (by simp) (Ev.pos (empty_iff.2 h0) ?_)))
    exact Ev.now _
  | m + 1, hn => by
    have hz := head_size s hn
    have hb := head_bt s hn (Nat.lt_succ_self m)
    have e2 : wrap64 (((s.extract 0 (m + 1)).size : Int) - 1) = (m : Int) := by rw [hz, wrap_in (by omega) (by omega)]; omega
    refine Ev.step (fun k => rfl) (Ev.bind (Ev.lift (suffix_succ _ m hz (by omega))) ?_)
    rw [e2, hb]
    by_cases h : bt s (m : Int) = 255
    · rw [decide_eq_true h, Int.toNat_natCast, head_head s (Nat.le_succ m)]
      refine Ev.pos rfl (Ev.pos (by omega) (Ev.pos (by omega) ?_))
      rw [trimLen, if_pos h]
      exact next_ev s hs m (by omega)
    · rw [decide_eq_false h, Int.toNat_natCast, head_head s (Nat.le_succ m)]
      have hm := head_size s (show m ≤ s.size by omega)
      refine Ev.neg (by simp) (Ev.neg (fun e => by have := empty_iff.1 e; omega) (Ev.pos (by omega) (Ev.pos (by omega) (Ev.pos (by omega) ?_))))
      rw [Option.bind_some, strOfNums_size]
      refine Ev.pos (by simp; omega) (Ev.to (Ev.now _) ?_)
      rw [trimLen, if_neg h, ← str_bytes (s.extract 0 m), head_bytes, str_append]
      congr 1
      have hlt : m < (bytesOf s).length := by rw [size_bytes]; omega
      show _ = ((bytesOf s).take (m + 1)).set m ((bt s (m : Int) + 1) % 256)
      rw [List.take_succ_eq_append_getElem hlt, List.set_append_right _ _ (by rw [List.length_take]; omega)]
      simp [List.length_take, Nat.min_eq_left (Nat.le_of_lt hlt)]

theorem walkRowsNexts (W : World) (s : ByteArray) (ok : s.size ≤ 140737488351232) :
    Calls Try.prog 3 #[.string s] W fun e w' => e = .returned (.bool true) ∧ Below W.heap.size W w' := by
  obtain ⟨k, h⟩ : ∃ k, bagnalllaw_RowsNexts.f k s = some true := Ev.rounds (by
    unfold bagnalllaw_RowsNexts.f rows_Next.f bagnallref_RowsNext.f
    have h := next_ev s ok s.size (Nat.le_refl _)
    rw [head_whole] at h
    rw [if_pos ok]
    exact Ev.bind h (Ev.to (Ev.now _) (by simp [bagnallref_RowsNext.v])))
  exact bagnalllaw_RowsNexts.calls k s true W h

end Go.Proofs.Ytnjidfgjldkkcaa.Pure
-- Written for this seat by a program of its session (xp.py over the kit's printer).
namespace Go.Proofs.Ytnjidfgjldkkcaa.Q
open Go.RowKit Go.Proofs.YtnjidfgjldkkcaaW.PrintWords Go.Proofs.YtnjidfgjldkkcaaW.PrintLast Go.Proofs.YtnjidfgjldkkcaaW.PrintMore
attribute [local go_sem] max2_int min2_int max_two min_two max_three min_three max_four min_four xq_geq xq_leq xq_gtr   -- for this text's walks alone
set_option linter.unusedVariables false
set_option linter.unusedSimpArgs false

attribute [local go_sem high] eqA69
/-! ### bagnallref_rowsSet: function 60 -/
mutual
def bagnallref_rowsSet.l0 : Nat → List (S69) → Bool → List (S69) → Int → Int → ByteArray → ByteArray → Option ((List (S69)))
  | 0, _, _, _, _, _, _, _ => none
  | k + 1, x5, x6, x12, x13, x14, x111000, x111001 => if x14 < x13 then (if 0 ≤ x14 then (if x14 < (x12.length : Int) then (if x6 = true then (bagnallref_rowsSet.j1 k x5 x6 x12 x13 x14 false x111000 x111001 ((rd_T69 x12 x14).f0) ((rd_T69 x12 x14).f1)) else (bagnallref_rowsSet.j1 k x5 x6 x12 x13 x14 (Op.bytesLess x111000.toList (((rd_T69 x12 x14).f0).toList)) x111000 x111001 ((rd_T69 x12 x14).f0) ((rd_T69 x12 x14).f1))) else (none)) else (none)) else (if x6 = true then (some x5) else (if x5.length < 4398046511104 then (some (x5 ++ [(⟨x111000, x111001⟩ : S69)])) else (none)))
def bagnallref_rowsSet.j1 : Nat → List (S69) → Bool → List (S69) → Int → Int → Bool → ByteArray → ByteArray → ByteArray → ByteArray → Option ((List (S69)))
  | 0, _, _, _, _, _, _, _, _, _, _ => none
  | k + 1, x5, x6, x12, x13, x14, x26, x111000, x111001, x116000, x116001 => if x26 = true then (if x5.length < 4398046511104 then ((some (x5 ++ [(⟨x111000, x111001⟩ : S69)] : List (S69))).bind fun y116 => (if x116000.toList = x111000.toList then (bagnallref_rowsSet.l0 k y116 true x12 x13 (wrap64 (x14 + 1)) x111000 x111001) else (if y116.length < 4398046511104 then (bagnallref_rowsSet.l0 k (y116 ++ [(⟨x116000, x116001⟩ : S69)]) true x12 x13 (wrap64 (x14 + 1)) x111000 x111001) else (none)))) else (none)) else (if x116000.toList = x111000.toList then (bagnallref_rowsSet.l0 k x5 x6 x12 x13 (wrap64 (x14 + 1)) x111000 x111001) else (if x5.length < 4398046511104 then (bagnallref_rowsSet.l0 k (x5 ++ [(⟨x116000, x116001⟩ : S69)]) x6 x12 x13 (wrap64 (x14 + 1)) x111000 x111001) else (none)))
end
def bagnallref_rowsSet.f (k : Nat) (l0 : List (S69)) (a1_0 : ByteArray) (a1_1 : ByteArray) : Option ((List (S69))) := bagnallref_rowsSet.l0 k ([] : List (S69)) (a1_1.toList == ([] : List UInt8)) l0 (l0.length : Int) 0 a1_0 a1_1
theorem bagnallref_rowsSet.mono_l : ∀ k, (∀ y0 y1 y2 y3 y4 y5 y6, LeO (bagnallref_rowsSet.l0 k y0 y1 y2 y3 y4 y5 y6) (bagnallref_rowsSet.l0 (k + 1) y0 y1 y2 y3 y4 y5 y6)) ∧ (∀ y0 y1 y2 y3 y4 y5 y6 y7 y8 y9, LeO (bagnallref_rowsSet.j1 k y0 y1 y2 y3 y4 y5 y6 y7 y8 y9) (bagnallref_rowsSet.j1 (k + 1) y0 y1 y2 y3 y4 y5 y6 y7 y8 y9))
  | 0 => ⟨fun _ _ _ _ _ _ _ r h => by simp [bagnallref_rowsSet.l0] at h, fun _ _ _ _ _ _ _ _ _ _ r h => by simp [bagnallref_rowsSet.j1] at h⟩
  | k + 1 => by
    obtain ⟨ih0, ih1⟩ := bagnallref_rowsSet.mono_l k
    refine ⟨?_, ?_⟩
    · intro y0 y1 y2 y3 y4 y5 y6
      unfold bagnallref_rowsSet.l0
      repeat' first
      | (with_reducible exact ih0 _ _ _ _ _ _ _)
      | (with_reducible exact ih1 _ _ _ _ _ _ _ _ _ _)
      | (with_reducible exact LeO.refl _)
      | (with_reducible exact LeO.none _)
      | (with_reducible refine LeO.ite ?_ ?_)
      | (with_reducible refine LeO.bind ?_ (fun _ => ?_))
      | exact ih0 _ _ _ _ _ _ _
      | exact ih1 _ _ _ _ _ _ _ _ _ _
      | exact LeO.none _
      | refine LeO.ite ?_ ?_
      | refine LeO.bind ?_ (fun _ => ?_)
    · intro y0 y1 y2 y3 y4 y5 y6 y7 y8 y9
      unfold bagnallref_rowsSet.j1
      repeat' first
      | (with_reducible exact ih0 _ _ _ _ _ _ _)
      | (with_reducible exact ih1 _ _ _ _ _ _ _ _ _ _)
      | (with_reducible exact LeO.refl _)
      | (with_reducible exact LeO.none _)
      | (with_reducible refine LeO.ite ?_ ?_)
      | (with_reducible refine LeO.bind ?_ (fun _ => ?_))
      | exact ih0 _ _ _ _ _ _ _
      | exact ih1 _ _ _ _ _ _ _ _ _ _
      | exact LeO.none _
      | refine LeO.ite ?_ ?_
      | refine LeO.bind ?_ (fun _ => ?_)
theorem bagnallref_rowsSet.mono : ∀ a0 a1 a2 k, LeO (bagnallref_rowsSet.f k a0 a1 a2) (bagnallref_rowsSet.f (k + 1) a0 a1 a2) := by
  intro a0 a1 a2 k
  obtain ⟨ih0, ih1⟩ := bagnallref_rowsSet.mono_l k
  unfold bagnallref_rowsSet.f
  repeat' first
      | (with_reducible exact ih0 _ _ _ _ _ _ _)
      | (with_reducible exact ih1 _ _ _ _ _ _ _ _ _ _)
      | (with_reducible exact LeO.refl _)
      | (with_reducible exact LeO.none _)
      | (with_reducible refine LeO.ite ?_ ?_)
      | (with_reducible refine LeO.bind ?_ (fun _ => ?_))
      | exact ih0 _ _ _ _ _ _ _
      | exact ih1 _ _ _ _ _ _ _ _ _ _
      | exact LeO.none _
      | refine LeO.ite ?_ ?_
      | refine LeO.bind ?_ (fun _ => ?_)
set_option maxHeartbeats 8000000 in
set_option maxRecDepth 100000 in
theorem bagnallref_rowsSet.calls (k : Nat) (A0 : Option Addr) (c0 : Nat) (l0 : List (S69)) (a1_0 : ByteArray) (a1_1 : ByteArray) (r : List (S69)) (w : World) (hr0 : Kd.C k69 w A0 l0.length l0) (hc0 : l0.length ≤ c0) (h : bagnallref_rowsSet.f k l0 a1_0 a1_1 = some r) :
    Calls Try.prog 60 #[.slice A0 l0.length c0, .agg #[.string a1_0, .string a1_1]] w fun e w' => ∃ v0_ : Value, e = .returned (v0_) ∧ Kd.R k69 69 w' w.heap.size (fun _ => True) v0_ r ∧ Below w.heap.size w w' := by
  have hu69 := Try.underlying69
  have HR0 := Aside0.mk hr0
  have HC0 := Aside0.mk hc0
  clear hr0 hc0
  have HB := Aside0.mk (Below.refl w.heap.size w)
  have H : (bagnallref_rowsSet.l0 k ([] : List (S69)) (a1_1.toList == ([] : List UInt8)) l0 (l0.length : Int) 0 a1_0 a1_1) = some r := h
  clear h
  have H' := Aside0.mk H
  clear H
  go_enter Try.func60, Try.ntmps60
  go_wp2_with (first | ((with_reducible refine gate_dst (N := 3) rfl ?_); refine box_event ?hg (N := 3) ?hd (cs := #[.string a1_0, .string a1_1]) (t := 69) ?hr ?_; (case hd => rfl); (case hg => rfl); (case hr => first | (go_simp; done) | (go_simp; rfl)); intro gb110 hg w3 hbox hb; have n0_ := Aside0.mk (below_step (by repeat (first | (with_reducible first | exact HB.out | apply below_alloc | apply pw_below_drewN | apply below_drew1) | exact HB.out)) hb); have n1_ := Aside0.mk (hbox); have n2_ := Aside0.mk ((by rw [hg]; exact (below_size (by repeat (first | (with_reducible first | exact HB.out | apply below_alloc | apply pw_below_drewN | apply below_drew1) | exact HB.out))) : w.heap.size ≤ gb110)); have n3_ := Aside0.mk ((by rw [hg]; exact (below_size (by repeat (first | (with_reducible first | exact HB.out | apply below_alloc | apply pw_below_drewN | apply below_drew1) | exact HB.out))) : w.heap.size ≤ gb110)); clear HB; have HB := n0_; have BK110 := n1_; have GW110 := n2_; have GE110 := n3_; clear n0_ n1_ n2_ n3_; clear hb hbox hg; have hcz4_0 : w3.cell? ⟨gb110, 0, none⟩ = some (.string a1_0) := (blk_cell BK110.out 0).trans rfl; have hcz4_1 : w3.cell? ⟨gb110, 1, none⟩ = some (.string a1_1) := (blk_cell BK110.out 1).trans rfl; have hfz4_0 := blk_frozen BK110.out 0; have hfz4_1 := blk_frozen BK110.out 1))
  go_loopg [5, 6, 14] k (fun kq v5 v6 v14 w' => ∃ (x5_1 : List (S69)) (x6_1 : Bool) (x14_1 : Int), v6 = .bool x6_1 ∧ v14 = .int .i64 x14_1 ∧ Aside0 (bagnallref_rowsSet.l0 kq x5_1 x6_1 l0 (l0.length : Int) x14_1 a1_0 a1_1 = some r) ∧ Aside0 (kq ≤ k) ∧ Aside0 (Kd.R k69 69 w' w.heap.size (fun k_ => k_ ≠ gb110) v5 x5_1) ∧ Aside0 (w'.heap[gb110]? = some (.cells #[.string a1_0, .string a1_1] 69 (0, 0))) ∧ Aside0 (Below w.heap.size w w'))
  case atStart => exact ⟨(([] : List (S69))), ((a1_1.toList == ([] : List UInt8))), (0), (by first | rfl | (simp; done) | (simp [*]; done)), (by first | rfl | (simp; done) | (simp [*]; done)), H', ⟨Nat.le_refl _⟩, ⟨by first | exact Kd.R_nil _ _ _ _ _ | exact Kd.N_nil _ _ _ _ _ | exact Kd.V_nil _ _ _ _ _ | exact Kd.Q_nil _ _ _ _ _ | exact Kd.S_nil _ _ _ _ _⟩, ⟨by (with_reducible repeat (first | refine blk_drewN ?_ _ | refine blk_drew ?_ | refine blk_alloc ?_ _)); exact BK110.out⟩, ⟨by repeat (first | (with_reducible first | exact HB.out | apply below_alloc | apply pw_below_drewN | apply below_drew1 | refine below_set ?_ GE110.out) | exact HB.out)⟩⟩
  case round =>
    clear H'
    try clear p2
    try clear hcz4_0
    try clear hcz4_1
    try clear hfz4_0
    try clear hfz4_1
    obtain ⟨x5_1, x6_1, x14_1, rfl, rfl, HA, HK1, HO_5, BK110, HB⟩ := hrel
    cases gk with
    | zero => exact absurd HA.out (by simp [bagnallref_rowsSet.l0])
    | succ k1 =>
      have H := HA.out
      clear HA
      simp only [bagnallref_rowsSet.l0] at H
      by_cases c5 : x14_1 < (l0.length : Int)
      · rw [if_pos c5] at H
        have c5b0 : decide (x14_1 < (l0.length : Int)) = true := decide_eq_true c5
        clear c5
        by_cases c6 : 0 ≤ x14_1
        · rw [if_pos c6] at H
          have c6b0 : decide (0 ≤ x14_1) = true := decide_eq_true c6
          clear c6
          by_cases c7 : x14_1 < (l0.length : Int)
          · rw [if_pos c7] at H
            have c7b0 : decide (x14_1 < (l0.length : Int)) = true := decide_eq_true c7
            clear c7
            have HC8 := Aside0.mk H
            clear H
            have p114 : 0 ≤ (x14_1 : Int) := of_decide_eq_true (by first | (with_reducible assumption) | assumption)
            have q114 : x14_1 < (l0.length : Int) := of_decide_eq_true (by first | (with_reducible assumption) | assumption)
            obtain ⟨ad114, e114, hx114_0, hx114_1⟩ := at_T69 HR0.out x14_1 p114 q114
            cases e114
            replace hx114_0 := (HB.out.cell (World.block_lt_of_cell? w _ hx114_0)).trans hx114_0
            replace hx114_1 := (HB.out.cell (World.block_lt_of_cell? w _ hx114_1)).trans hx114_1
            replace p114 := eq_true p114
            replace q114 := eq_true q114
            go_upto_region 6 with (first | ((with_reducible refine gate_dst (N := 8) rfl ?_); refine box_event ?hg (N := 8) ?hd (cs := #[.string (⟨#[]⟩ : ByteArray), .string (⟨#[]⟩ : ByteArray)]) (t := 69) ?hr ?_; (case hd => rfl); (case hg => rfl); (case hr => first | (go_simp; done) | (go_simp; rfl)); intro gb115 hg w9 hbox hb; have n0_ := Aside0.mk (Kd.R_below (Kd.R_elderB (by (with_reducible repeat (first | apply Kd.R_alloc | apply Kd.R_drewN | apply Kd.R_drew)); exact HO_5.out) gb115 (Nat.le_of_eq hg.symm)) hb); have n1_ := Aside0.mk (blk_below (g := gb110) (o := .cells #[.string a1_0, .string a1_1] 69 (0, 0)) (by (with_reducible repeat (first | refine blk_drewN ?_ _ | refine blk_drew ?_ | refine blk_alloc ?_ _)); exact BK110.out) hb); have n2_ := Aside0.mk (below_step (by repeat (first | (with_reducible first | exact HB.out | apply below_alloc | apply pw_below_drewN | apply below_drew1 | refine below_set ?_ GE110.out) | exact HB.out)) hb); have n3_ := Aside0.mk (hbox); have n4_ := Aside0.mk ((by rw [hg]; exact (below_size (by repeat (first | (with_reducible first | exact HB.out | apply below_alloc | apply pw_below_drewN | apply below_drew1 | refine below_set ?_ GE110.out) | exact HB.out))) : w.heap.size ≤ gb115)); have n5_ := Aside0.mk ((by rw [hg]; exact (below_size (by repeat (first | (with_reducible first | exact HB.out | apply below_alloc | apply pw_below_drewN | apply below_drew1 | refine below_set ?_ GE110.out) | exact HB.out))) : w.heap.size ≤ gb115)); have n6_ := Aside0.mk ((by rw [hg]; exact Nat.ne_of_lt (blk_lt (g := gb110) (o := .cells #[.string a1_0, .string a1_1] 69 (0, 0)) (by (with_reducible repeat (first | refine blk_drewN ?_ _ | refine blk_drew ?_ | refine blk_alloc ?_ _)); exact BK110.out)) : gb110 ≠ gb115)); have n7_ := Aside0.mk ((by rw [hg]; exact Nat.ne_of_gt (blk_lt (g := gb110) (o := .cells #[.string a1_0, .string a1_1] 69 (0, 0)) (by (with_reducible repeat (first | refine blk_drewN ?_ _ | refine blk_drew ?_ | refine blk_alloc ?_ _)); exact BK110.out)) : gb115 ≠ gb110)); clear HO_5; clear BK110; clear HB; have HO_5 := n0_; have BK110 := n1_; have HB := n2_; have BK115 := n3_; have GW115 := n4_; have GE115 := n5_; have NB110_115 := n6_; have NB115_110 := n7_; clear n0_ n1_ n2_ n3_ n4_ n5_ n6_ n7_; clear hb hbox hg; have hnb10 := NB115_110.out; have hnc10 := NB110_115.out; have hcz11_0 : w9.cell? ⟨gb115, 0, none⟩ = some (.string (⟨#[]⟩ : ByteArray)) := (blk_cell BK115.out 0).trans rfl; have hcz11_1 : w9.cell? ⟨gb115, 1, none⟩ = some (.string (⟨#[]⟩ : ByteArray)) := (blk_cell BK115.out 1).trans rfl; have hfz11_0 := blk_frozen BK115.out 0; have hfz11_1 := blk_frozen BK115.out 1))
            (try simp only [Act.put, List.setIfInBounds_toArray, List.set_cons_zero, List.set_cons_succ])
            go_cut [26] (fun v26 wc => ∃ (kq : Nat) (x26_7 : Bool), v26 = .bool x26_7 ∧ Aside0 (bagnallref_rowsSet.j1 kq x5_1 x6_1 l0 (l0.length : Int) x14_1 x26_7 a1_0 a1_1 ((rd_T69 l0 x14_1).f0) ((rd_T69 l0 x14_1).f1) = some r) ∧ Aside0 (kq ≤ k1) ∧ Aside0 (Kd.R k69 69 wc w.heap.size (fun k_ => k_ ≠ gb110 ∧ k_ ≠ gb115) u5 x5_1) ∧ Aside0 (wc.heap[gb110]? = some (.cells #[.string a1_0, .string a1_1] 69 (0, 0))) ∧ Aside0 (wc.heap[gb115]? = some (.cells #[.string ((rd_T69 l0 x14_1).f0), .string ((rd_T69 l0 x14_1).f1)] 69 (0, 0))) ∧ Aside0 (Below w.heap.size w wc))
            case first =>
              have H := HC8.out
              clear HC8
              by_cases c12 : x6_1 = true
              · subst c12
                have H1 : (bagnallref_rowsSet.j1 k1 x5_1 true l0 (l0.length : Int) x14_1 false a1_0 a1_1 ((rd_T69 l0 x14_1).f0) ((rd_T69 l0 x14_1).f1)) = some r := by rw [if_pos rfl] at H; exact H
                clear H
                have H := H1
                clear H1
                have H' := Aside0.mk H
                clear H
                go_wp2
                go_meet
                case rel => exact ⟨_, (false), (by first | rfl | (simp; done) | (simp [*]; done)), H', ⟨by have := HK1.out; first | omega | exact Nat.le_refl _⟩, ⟨by (with_reducible repeat (first | apply Kd.R_alloc | apply Kd.R_drewN | apply Kd.R_drew)); exact Kd.R_mono (Kd.R_far (p := ⟨gb115, 1, none⟩) (Kd.R_far (p := ⟨gb115, 0, none⟩) (Kd.R_mono HO_5.out (fun k_ hk => (⟨hk, hk.2⟩ : _ ∧ k_ ≠ gb115))) (fun _ hk => hk.2) (.string ((rd_T69 l0 x14_1).f0))) (fun _ hk => hk.2) (.string ((rd_T69 l0 x14_1).f1))) (fun _ hk => ⟨hk.1.1, hk.1.2⟩)⟩, ⟨by (with_reducible repeat (first | refine blk_drewN ?_ _ | refine blk_drew ?_ | refine blk_alloc ?_ _)); refine blk_far ?_ NB110_115.out _; (with_reducible repeat (first | refine blk_drewN ?_ _ | refine blk_drew ?_ | refine blk_alloc ?_ _)); refine blk_far ?_ NB110_115.out _; (with_reducible repeat (first | refine blk_drewN ?_ _ | refine blk_drew ?_ | refine blk_alloc ?_ _)); exact BK110.out⟩, ⟨by (with_reducible repeat (first | refine blk_drewN ?_ _ | refine blk_drew ?_ | refine blk_alloc ?_ _)); refine blk_put (cs := #[.string ((rd_T69 l0 x14_1).f0), .string (⟨#[]⟩ : ByteArray)]) ?_ 1 _ rfl; (with_reducible repeat (first | refine blk_drewN ?_ _ | refine blk_drew ?_ | refine blk_alloc ?_ _)); refine blk_put (cs := #[.string (⟨#[]⟩ : ByteArray), .string (⟨#[]⟩ : ByteArray)]) ?_ 0 _ rfl; (with_reducible repeat (first | refine blk_drewN ?_ _ | refine blk_drew ?_ | refine blk_alloc ?_ _)); exact BK115.out⟩, ⟨by repeat (first | (with_reducible first | exact HB.out | apply below_alloc | apply pw_below_drewN | apply below_drew1 | refine below_set ?_ GE110.out | refine below_set ?_ GE115.out) | exact HB.out)⟩⟩
              · replace c12 := Bool.eq_false_iff.mpr c12
                subst c12
                have H1 : (bagnallref_rowsSet.j1 k1 x5_1 false l0 (l0.length : Int) x14_1 (Op.bytesLess a1_0.toList (((rd_T69 l0 x14_1).f0).toList)) a1_0 a1_1 ((rd_T69 l0 x14_1).f0) ((rd_T69 l0 x14_1).f1)) = some r := by rw [if_neg (show ¬ (false = true) by decide)] at H; exact H
                clear H
                have H := H1
                clear H1
                have H' := Aside0.mk H
                clear H
                have hnb13 := NB115_110.out
                have hnc13 := NB110_115.out
                have hcz14_0 : w9.cell? ⟨gb115, 0, none⟩ = some (.string (⟨#[]⟩ : ByteArray)) := (blk_cell BK115.out 0).trans rfl
                have hcz14_1 : w9.cell? ⟨gb115, 1, none⟩ = some (.string (⟨#[]⟩ : ByteArray)) := (blk_cell BK115.out 1).trans rfl
                have hfz14_0 := blk_frozen BK115.out 0
                have hfz14_1 := blk_frozen BK115.out 1
                have hcz15_0 : w9.cell? ⟨gb110, 0, none⟩ = some (.string a1_0) := (blk_cell BK110.out 0).trans rfl
                have hcz15_1 : w9.cell? ⟨gb110, 1, none⟩ = some (.string a1_1) := (blk_cell BK110.out 1).trans rfl
                have hfz15_0 := blk_frozen BK110.out 0
                have hfz15_1 := blk_frozen BK110.out 1
                go_wp2
                go_meet
                case rel => exact ⟨_, ((Op.bytesLess a1_0.toList (((rd_T69 l0 x14_1).f0).toList))), (by first | rfl | (simp; done) | (simp [*]; done)), H', ⟨by have := HK1.out; first | omega | exact Nat.le_refl _⟩, ⟨by (with_reducible repeat (first | apply Kd.R_alloc | apply Kd.R_drewN | apply Kd.R_drew)); exact Kd.R_mono (Kd.R_far (p := ⟨gb115, 1, none⟩) (Kd.R_far (p := ⟨gb115, 0, none⟩) (Kd.R_mono HO_5.out (fun k_ hk => (⟨hk, hk.2⟩ : _ ∧ k_ ≠ gb115))) (fun _ hk => hk.2) (.string ((rd_T69 l0 x14_1).f0))) (fun _ hk => hk.2) (.string ((rd_T69 l0 x14_1).f1))) (fun _ hk => ⟨hk.1.1, hk.1.2⟩)⟩, ⟨by (with_reducible repeat (first | refine blk_drewN ?_ _ | refine blk_drew ?_ | refine blk_alloc ?_ _)); refine blk_far ?_ NB110_115.out _; (with_reducible repeat (first | refine blk_drewN ?_ _ | refine blk_drew ?_ | refine blk_alloc ?_ _)); refine blk_far ?_ NB110_115.out _; (with_reducible repeat (first | refine blk_drewN ?_ _ | refine blk_drew ?_ | refine blk_alloc ?_ _)); exact BK110.out⟩, ⟨by (with_reducible repeat (first | refine blk_drewN ?_ _ | refine blk_drew ?_ | refine blk_alloc ?_ _)); refine blk_put (cs := #[.string ((rd_T69 l0 x14_1).f0), .string (⟨#[]⟩ : ByteArray)]) ?_ 1 _ rfl; (with_reducible repeat (first | refine blk_drewN ?_ _ | refine blk_drew ?_ | refine blk_alloc ?_ _)); refine blk_put (cs := #[.string (⟨#[]⟩ : ByteArray), .string (⟨#[]⟩ : ByteArray)]) ?_ 0 _ rfl; (with_reducible repeat (first | refine blk_drewN ?_ _ | refine blk_drew ?_ | refine blk_alloc ?_ _)); exact BK115.out⟩, ⟨by repeat (first | (with_reducible first | exact HB.out | apply below_alloc | apply pw_below_drewN | apply below_drew1 | refine below_set ?_ GE110.out | refine below_set ?_ GE115.out) | exact HB.out)⟩⟩
            case rest =>
              clear HC8
              try clear c1
              try clear p1
              try clear q1
              try clear hx1
              try clear p2
              try clear c5
              try clear c5b0
              try clear c6
              try clear c6b0
              try clear c7
              try clear c7b0
              try clear c10
              try clear p11
              try clear q11
              try clear hx11
              try clear c12
              try clear c13
              try clear hcz11_0
              try clear hcz11_1
              try clear hcz14_0
              try clear hcz14_1
              try clear hcz15_0
              try clear hcz15_1
              try clear hcz4_0
              try clear hcz4_1
              try clear hfz11_0
              try clear hfz11_1
              try clear hfz14_0
              try clear hfz14_1
              try clear hfz15_0
              try clear hfz15_1
              try clear hfz4_0
              try clear hfz4_1
              try clear hx114_0
              try clear hx114_1
              try clear p114
              try clear p2
              try clear q114
              obtain ⟨kq, x26_7, rfl, HA, HJ7, HO_5, BK110, BK115, HB⟩ := hcut
              cases kq with
              | zero => exact absurd HA.out (by simp [bagnallref_rowsSet.j1])
              | succ kj7 =>
                have H := HA.out
                clear HA
                simp only [bagnallref_rowsSet.j1] at H
                by_cases c16 : x26_7 = true
                · subst c16
                  have H1 : (if x5_1.length < 4398046511104 then ((some (x5_1 ++ [(⟨a1_0, a1_1⟩ : S69)] : List (S69))).bind fun y116 => (if ((rd_T69 l0 x14_1).f0).toList = a1_0.toList then (bagnallref_rowsSet.l0 kj7 y116 true l0 (l0.length : Int) (wrap64 (x14_1 + 1)) a1_0 a1_1) else (if y116.length < 4398046511104 then (bagnallref_rowsSet.l0 kj7 (y116 ++ [(⟨((rd_T69 l0 x14_1).f0), ((rd_T69 l0 x14_1).f1)⟩ : S69)]) true l0 (l0.length : Int) (wrap64 (x14_1 + 1)) a1_0 a1_1) else (none)))) else (none)) = some r := by rw [if_pos rfl] at H; exact H
                  clear H
                  have H := H1
                  clear H1
                  by_cases c17 : x5_1.length < 4398046511104
                  · rw [if_pos c17] at H
                    have LMc17 := Aside0.mk c17
                    clear c17
                    obtain ⟨y116, hy116⟩ : ∃ y_ : List (S69), y_ = (x5_1 ++ [(⟨a1_0, a1_1⟩ : S69)]) := ⟨_, rfl⟩
                    replace H : (if ((rd_T69 l0 x14_1).f0).toList = a1_0.toList then (bagnallref_rowsSet.l0 kj7 y116 true l0 (l0.length : Int) (wrap64 (x14_1 + 1)) a1_0 a1_1) else (if y116.length < 4398046511104 then (bagnallref_rowsSet.l0 kj7 (y116 ++ [(⟨((rd_T69 l0 x14_1).f0), ((rd_T69 l0 x14_1).f1)⟩ : S69)]) true l0 (l0.length : Int) (wrap64 (x14_1 + 1)) a1_0 a1_1) else (none))) = some r := by first | (rw [hy116]; with_reducible exact H) | (have H2_ := (Option.bind_some _ _).symm.trans H; rw [hy116]; with_reducible exact H2_) | (have H2_ := (Option.bind_some _ _).symm.trans H; with_reducible exact H2_) | with_reducible exact H | (rw [hy116]; exact H) | exact H
                    have Ny116 := Aside0.mk hy116
                    clear hy116
                    by_cases c18 : ((rd_T69 l0 x14_1).f0).toList = a1_0.toList
                    · rw [if_pos c18] at H
                      have c18b0 : (((rd_T69 l0 x14_1).f0).toList == a1_0.toList) = true := beq_iff_eq.mpr c18
                      have c18b1 : (((rd_T69 l0 x14_1).f0).toList != a1_0.toList) = false := bne_eq_false_iff_eq.mpr c18
                      clear c18
                      have H' := Aside0.mk H
                      clear H
                      have hnb19 := NB110_115.out
                      have hnc19 := NB115_110.out
                      have hcz20_0 : wc.cell? ⟨gb110, 0, none⟩ = some (.string a1_0) := (blk_cell BK110.out 0).trans rfl
                      have hcz20_1 : wc.cell? ⟨gb110, 1, none⟩ = some (.string a1_1) := (blk_cell BK110.out 1).trans rfl
                      have hfz20_0 := blk_frozen BK110.out 0
                      have hfz20_1 := blk_frozen BK110.out 1
                      go_wp2_with (first | ((with_reducible refine gate_builtin (b := .append) (xs := #[.tmp 27, .tmp 29]) rfl ?_); at_builtin; refine Kd.R_append k69 (w0 := w) w.heap.size rfl (.tmp 27) (.tmp 29) 24 69 (.agg #[(.string ⟨#[]⟩), (.string ⟨#[]⟩)]) 32 rfl Try.underlying24 info69 rfl (by decide) (by omega) u5 x5_1 (⟨a1_0, a1_1⟩ : S69) [.string a1_0, .string a1_1] (fun k_ => k_ ≠ gb110 ∧ k_ ≠ gb115) (fun _ => False) rfl rfl ?aP (fun _ hk => hk.elim) ?aF ?aO ?aB ?aS ?aL ?_; (case aP => exact k69_mkM _ _ _ (⟨a1_0, a1_1⟩ : S69)); (case aB => exact (by repeat (first | (with_reducible first | exact HB.out | apply below_alloc | apply pw_below_drewN | apply below_drew1 | refine below_set ?_ GE110.out | refine below_set ?_ GE115.out) | exact HB.out))); (case aF => exact (fun k_ hk => ⟨Kd.freshB (g := gb110) (o := .cells #[.string a1_0, .string a1_1] 69 (0, 0)) (by (with_reducible repeat (first | refine blk_drewN ?_ _ | refine blk_drew ?_ | refine blk_alloc ?_ _)); exact BK110.out) k_ hk, Kd.freshB (g := gb115) (o := .cells #[.string ((rd_T69 l0 x14_1).f0), .string ((rd_T69 l0 x14_1).f1)] 69 (0, 0)) (by (with_reducible repeat (first | refine blk_drewN ?_ _ | refine blk_drew ?_ | refine blk_alloc ?_ _)); exact BK115.out) k_ hk⟩)); (case aO => exact (by (with_reducible repeat (first | apply Kd.R_alloc | apply Kd.R_drewN | apply Kd.R_drew)); exact HO_5.out)); (case aS => exact (below_size (by repeat (first | (with_reducible first | exact HB.out | apply below_alloc | apply pw_below_drewN | apply below_drew1 | refine below_set ?_ GE110.out | refine below_set ?_ GE115.out) | exact HB.out)))); (case aL => have := LMc17.out; omega); intro v117 w21 ho hb hg hat; rw [← Ny116.out] at ho; have n0_ := Aside0.mk (blk_grown (g := gb110) (o := .cells #[.string a1_0, .string a1_1] 69 (0, 0)) (by (with_reducible repeat (first | refine blk_drewN ?_ _ | refine blk_drew ?_ | refine blk_alloc ?_ _)); exact BK110.out) hg (Kd.R_away HO_5.out (fun _ hk => hk.1))); have n1_ := Aside0.mk (blk_grown (g := gb115) (o := .cells #[.string ((rd_T69 l0 x14_1).f0), .string ((rd_T69 l0 x14_1).f1)] 69 (0, 0)) (by (with_reducible repeat (first | refine blk_drewN ?_ _ | refine blk_drew ?_ | refine blk_alloc ?_ _)); exact BK115.out) hg (Kd.R_away HO_5.out (fun _ hk => hk.2))); have n2_ := Aside0.mk (hb); have n3_ := Aside0.mk (ho); clear BK110; clear BK115; clear HB; clear HO_5; have BK110 := n0_; have BK115 := n1_; have HB := n2_; have HO118 := n3_; clear n0_ n1_ n2_ n3_; clear ho hb hg hat; have hcz22_0 : w21.cell? ⟨gb115, 0, none⟩ = some (.string ((rd_T69 l0 x14_1).f0)) := (blk_cell BK115.out 0).trans rfl; have hcz22_1 : w21.cell? ⟨gb115, 1, none⟩ = some (.string ((rd_T69 l0 x14_1).f1)) := (blk_cell BK115.out 1).trans rfl; have hfz22_0 := blk_frozen BK115.out 0; have hfz22_1 := blk_frozen BK115.out 1; have hcz23_0 : w21.cell? ⟨gb110, 0, none⟩ = some (.string a1_0) := (blk_cell BK110.out 0).trans rfl; have hcz23_1 : w21.cell? ⟨gb110, 1, none⟩ = some (.string a1_1) := (blk_cell BK110.out 1).trans rfl; have hfz23_0 := blk_frozen BK110.out 0; have hfz23_1 := blk_frozen BK110.out 1))
                      go_roundg kj7
                      case measure => have := HK1.out; have := HJ7.out; omega
                      case rel => exact ⟨(y116), (true), (wrap64 (x14_1 + 1)), (by first | rfl | (simp; done) | (simp [*]; done)), (by first | rfl | (simp; done) | (simp [*]; done)), H', ⟨by have := HK1.out; have := HJ7.out; omega⟩, ⟨by (with_reducible repeat (first | apply Kd.R_alloc | apply Kd.R_drewN | apply Kd.R_drew)); exact Kd.R_mono HO118.out (fun _ hk => hk.1)⟩, ⟨by (with_reducible repeat (first | refine blk_drewN ?_ _ | refine blk_drew ?_ | refine blk_alloc ?_ _)); exact BK110.out⟩, ⟨by repeat (first | (with_reducible first | exact HB.out | apply below_alloc | apply pw_below_drewN | apply below_drew1 | refine below_set ?_ GE110.out | refine below_set ?_ GE115.out) | exact HB.out)⟩⟩
                    · rw [if_neg c18] at H
                      have c18b0 : (((rd_T69 l0 x14_1).f0).toList == a1_0.toList) = false := beq_eq_false_iff_ne.mpr c18
                      have c18b1 : (((rd_T69 l0 x14_1).f0).toList != a1_0.toList) = true := bne_iff_ne.mpr c18
                      by_cases c24 : y116.length < 4398046511104
                      · rw [if_pos c24] at H
                        have LMc24 := Aside0.mk c24
                        clear c24
                        obtain ⟨y119, hy119⟩ : ∃ y_ : List (S69), y_ = (y116 ++ [(⟨((rd_T69 l0 x14_1).f0), ((rd_T69 l0 x14_1).f1)⟩ : S69)]) := ⟨_, rfl⟩
                        replace H : (bagnallref_rowsSet.l0 kj7 y119 true l0 (l0.length : Int) (wrap64 (x14_1 + 1)) a1_0 a1_1) = some r := by first | (rw [hy119]; with_reducible exact H) | (have H2_ := (Option.bind_some _ _).symm.trans H; rw [hy119]; with_reducible exact H2_) | (have H2_ := (Option.bind_some _ _).symm.trans H; with_reducible exact H2_) | with_reducible exact H | (rw [hy119]; exact H) | exact H
                        have Ny119 := Aside0.mk hy119
                        clear hy119
                        have H' := Aside0.mk H
                        clear H
                        have hnb25 := NB110_115.out
                        have hnc25 := NB115_110.out
                        have hcz26_0 : wc.cell? ⟨gb110, 0, none⟩ = some (.string a1_0) := (blk_cell BK110.out 0).trans rfl
                        have hcz26_1 : wc.cell? ⟨gb110, 1, none⟩ = some (.string a1_1) := (blk_cell BK110.out 1).trans rfl
                        have hfz26_0 := blk_frozen BK110.out 0
                        have hfz26_1 := blk_frozen BK110.out 1
                        go_wp2_with (first | ((with_reducible refine gate_builtin (b := .append) (xs := #[.tmp 27, .tmp 29]) rfl ?_); at_builtin; refine Kd.R_append k69 (w0 := w) w.heap.size rfl (.tmp 27) (.tmp 29) 24 69 (.agg #[(.string ⟨#[]⟩), (.string ⟨#[]⟩)]) 32 rfl Try.underlying24 info69 rfl (by decide) (by omega) u5 x5_1 (⟨a1_0, a1_1⟩ : S69) [.string a1_0, .string a1_1] (fun k_ => k_ ≠ gb110 ∧ k_ ≠ gb115) (fun _ => False) rfl rfl ?aP (fun _ hk => hk.elim) ?aF ?aO ?aB ?aS ?aL ?_; (case aP => exact k69_mkM _ _ _ (⟨a1_0, a1_1⟩ : S69)); (case aB => exact (by repeat (first | (with_reducible first | exact HB.out | apply below_alloc | apply pw_below_drewN | apply below_drew1 | refine below_set ?_ GE110.out | refine below_set ?_ GE115.out) | exact HB.out))); (case aF => exact (fun k_ hk => ⟨Kd.freshB (g := gb110) (o := .cells #[.string a1_0, .string a1_1] 69 (0, 0)) (by (with_reducible repeat (first | refine blk_drewN ?_ _ | refine blk_drew ?_ | refine blk_alloc ?_ _)); exact BK110.out) k_ hk, Kd.freshB (g := gb115) (o := .cells #[.string ((rd_T69 l0 x14_1).f0), .string ((rd_T69 l0 x14_1).f1)] 69 (0, 0)) (by (with_reducible repeat (first | refine blk_drewN ?_ _ | refine blk_drew ?_ | refine blk_alloc ?_ _)); exact BK115.out) k_ hk⟩)); (case aO => exact (by (with_reducible repeat (first | apply Kd.R_alloc | apply Kd.R_drewN | apply Kd.R_drew)); exact HO_5.out)); (case aS => exact (below_size (by repeat (first | (with_reducible first | exact HB.out | apply below_alloc | apply pw_below_drewN | apply below_drew1 | refine below_set ?_ GE110.out | refine below_set ?_ GE115.out) | exact HB.out)))); (case aL => have := LMc17.out; omega); intro v117 w27 ho hb hg hat; rw [← Ny116.out] at ho; have n0_ := Aside0.mk (blk_grown (g := gb110) (o := .cells #[.string a1_0, .string a1_1] 69 (0, 0)) (by (with_reducible repeat (first | refine blk_drewN ?_ _ | refine blk_drew ?_ | refine blk_alloc ?_ _)); exact BK110.out) hg (Kd.R_away HO_5.out (fun _ hk => hk.1))); have n1_ := Aside0.mk (blk_grown (g := gb115) (o := .cells #[.string ((rd_T69 l0 x14_1).f0), .string ((rd_T69 l0 x14_1).f1)] 69 (0, 0)) (by (with_reducible repeat (first | refine blk_drewN ?_ _ | refine blk_drew ?_ | refine blk_alloc ?_ _)); exact BK115.out) hg (Kd.R_away HO_5.out (fun _ hk => hk.2))); have n2_ := Aside0.mk (hb); have n3_ := Aside0.mk (ho); clear BK110; clear BK115; clear HB; clear HO_5; have BK110 := n0_; have BK115 := n1_; have HB := n2_; have HO118 := n3_; clear n0_ n1_ n2_ n3_; clear ho hb hg hat; have hcz28_0 : w27.cell? ⟨gb115, 0, none⟩ = some (.string ((rd_T69 l0 x14_1).f0)) := (blk_cell BK115.out 0).trans rfl; have hcz28_1 : w27.cell? ⟨gb115, 1, none⟩ = some (.string ((rd_T69 l0 x14_1).f1)) := (blk_cell BK115.out 1).trans rfl; have hfz28_0 := blk_frozen BK115.out 0; have hfz28_1 := blk_frozen BK115.out 1; have hcz29_0 : w27.cell? ⟨gb110, 0, none⟩ = some (.string a1_0) := (blk_cell BK110.out 0).trans rfl; have hcz29_1 : w27.cell? ⟨gb110, 1, none⟩ = some (.string a1_1) := (blk_cell BK110.out 1).trans rfl; have hfz29_0 := blk_frozen BK110.out 0; have hfz29_1 := blk_frozen BK110.out 1) | ((with_reducible refine gate_builtin (b := .append) (xs := #[.tmp 36, .tmp 38]) rfl ?_); at_builtin; refine Kd.R_append k69 (w0 := w) w.heap.size rfl (.tmp 36) (.tmp 38) 24 69 (.agg #[(.string ⟨#[]⟩), (.string ⟨#[]⟩)]) 32 rfl Try.underlying24 info69 rfl (by decide) (by omega) v117 y116 (⟨((rd_T69 l0 x14_1).f0), ((rd_T69 l0 x14_1).f1)⟩ : S69) [.string ((rd_T69 l0 x14_1).f0), .string ((rd_T69 l0 x14_1).f1)] (fun k_ => k_ ≠ gb110 ∧ k_ ≠ gb115) (fun _ => False) rfl rfl ?aP (fun _ hk => hk.elim) ?aF ?aO ?aB ?aS ?aL ?_; (case aP => exact k69_mkM _ _ _ (⟨((rd_T69 l0 x14_1).f0), ((rd_T69 l0 x14_1).f1)⟩ : S69)); (case aB => exact (by repeat (first | (with_reducible first | exact HB.out | apply below_alloc | apply pw_below_drewN | apply below_drew1 | refine below_set ?_ GE110.out | refine below_set ?_ GE115.out) | exact HB.out))); (case aF => exact (fun k_ hk => ⟨Kd.freshB (g := gb110) (o := .cells #[.string a1_0, .string a1_1] 69 (0, 0)) (by (with_reducible repeat (first | refine blk_drewN ?_ _ | refine blk_drew ?_ | refine blk_alloc ?_ _)); exact BK110.out) k_ hk, Kd.freshB (g := gb115) (o := .cells #[.string ((rd_T69 l0 x14_1).f0), .string ((rd_T69 l0 x14_1).f1)] 69 (0, 0)) (by (with_reducible repeat (first | refine blk_drewN ?_ _ | refine blk_drew ?_ | refine blk_alloc ?_ _)); exact BK115.out) k_ hk⟩)); (case aO => exact (by (with_reducible repeat (first | apply Kd.R_alloc | apply Kd.R_drewN | apply Kd.R_drew)); exact HO118.out)); (case aS => exact (below_size (by repeat (first | (with_reducible first | exact HB.out | apply below_alloc | apply pw_below_drewN | apply below_drew1 | refine below_set ?_ GE110.out | refine below_set ?_ GE115.out) | exact HB.out)))); (case aL => have := LMc24.out; omega); intro v120 w30 ho hb hg hat; rw [← Ny119.out] at ho; have n0_ := Aside0.mk (blk_grown (g := gb110) (o := .cells #[.string a1_0, .string a1_1] 69 (0, 0)) (by (with_reducible repeat (first | refine blk_drewN ?_ _ | refine blk_drew ?_ | refine blk_alloc ?_ _)); exact BK110.out) hg (Kd.R_away HO118.out (fun _ hk => hk.1))); have n1_ := Aside0.mk (blk_grown (g := gb115) (o := .cells #[.string ((rd_T69 l0 x14_1).f0), .string ((rd_T69 l0 x14_1).f1)] 69 (0, 0)) (by (with_reducible repeat (first | refine blk_drewN ?_ _ | refine blk_drew ?_ | refine blk_alloc ?_ _)); exact BK115.out) hg (Kd.R_away HO118.out (fun _ hk => hk.2))); have n2_ := Aside0.mk (hb); have n3_ := Aside0.mk (ho); clear BK110; clear BK115; clear HB; clear HO118; have BK110 := n0_; have BK115 := n1_; have HB := n2_; have HO121 := n3_; clear n0_ n1_ n2_ n3_; clear ho hb hg hat))
                        go_roundg kj7
                        case measure => have := HK1.out; have := HJ7.out; omega
                        case rel => exact ⟨(y119), (true), (wrap64 (x14_1 + 1)), (by first | rfl | (simp; done) | (simp [*]; done)), (by first | rfl | (simp; done) | (simp [*]; done)), H', ⟨by have := HK1.out; have := HJ7.out; omega⟩, ⟨by (with_reducible repeat (first | apply Kd.R_alloc | apply Kd.R_drewN | apply Kd.R_drew)); exact Kd.R_mono HO121.out (fun _ hk => hk.1)⟩, ⟨by (with_reducible repeat (first | refine blk_drewN ?_ _ | refine blk_drew ?_ | refine blk_alloc ?_ _)); exact BK110.out⟩, ⟨by repeat (first | (with_reducible first | exact HB.out | apply below_alloc | apply pw_below_drewN | apply below_drew1 | refine below_set ?_ GE110.out | refine below_set ?_ GE115.out) | exact HB.out)⟩⟩
                      · rw [if_neg c24] at H
                        exact absurd H (by simp)
                  · rw [if_neg c17] at H
                    exact absurd H (by simp)
                · replace c16 := Bool.eq_false_iff.mpr c16
                  subst c16
                  have H1 : (if ((rd_T69 l0 x14_1).f0).toList = a1_0.toList then (bagnallref_rowsSet.l0 kj7 x5_1 x6_1 l0 (l0.length : Int) (wrap64 (x14_1 + 1)) a1_0 a1_1) else (if x5_1.length < 4398046511104 then (bagnallref_rowsSet.l0 kj7 (x5_1 ++ [(⟨((rd_T69 l0 x14_1).f0), ((rd_T69 l0 x14_1).f1)⟩ : S69)]) x6_1 l0 (l0.length : Int) (wrap64 (x14_1 + 1)) a1_0 a1_1) else (none))) = some r := by rw [if_neg (show ¬ (false = true) by decide)] at H; exact H
                  clear H
                  have H := H1
                  clear H1
                  by_cases c31 : ((rd_T69 l0 x14_1).f0).toList = a1_0.toList
                  · rw [if_pos c31] at H
                    have c31b0 : (((rd_T69 l0 x14_1).f0).toList == a1_0.toList) = true := beq_iff_eq.mpr c31
                    have c31b1 : (((rd_T69 l0 x14_1).f0).toList != a1_0.toList) = false := bne_eq_false_iff_eq.mpr c31
                    clear c31
                    have H' := Aside0.mk H
                    clear H
                    have hnb32 := NB115_110.out
                    have hnc32 := NB110_115.out
                    have hcz33_0 : wc.cell? ⟨gb115, 0, none⟩ = some (.string ((rd_T69 l0 x14_1).f0)) := (blk_cell BK115.out 0).trans rfl
                    have hcz33_1 : wc.cell? ⟨gb115, 1, none⟩ = some (.string ((rd_T69 l0 x14_1).f1)) := (blk_cell BK115.out 1).trans rfl
                    have hfz33_0 := blk_frozen BK115.out 0
                    have hfz33_1 := blk_frozen BK115.out 1
                    have hcz34_0 : wc.cell? ⟨gb110, 0, none⟩ = some (.string a1_0) := (blk_cell BK110.out 0).trans rfl
                    have hcz34_1 : wc.cell? ⟨gb110, 1, none⟩ = some (.string a1_1) := (blk_cell BK110.out 1).trans rfl
                    have hfz34_0 := blk_frozen BK110.out 0
                    have hfz34_1 := blk_frozen BK110.out 1
                    go_wp2
                    go_roundg kj7
                    case measure => have := HK1.out; have := HJ7.out; omega
                    case rel => exact ⟨(x5_1), (x6_1), (wrap64 (x14_1 + 1)), (by first | rfl | (simp; done) | (simp [*]; done)), (by first | rfl | (simp; done) | (simp [*]; done)), H', ⟨by have := HK1.out; have := HJ7.out; omega⟩, ⟨by (with_reducible repeat (first | apply Kd.R_alloc | apply Kd.R_drewN | apply Kd.R_drew)); exact Kd.R_mono HO_5.out (fun _ hk => hk.1)⟩, ⟨by (with_reducible repeat (first | refine blk_drewN ?_ _ | refine blk_drew ?_ | refine blk_alloc ?_ _)); exact BK110.out⟩, ⟨by repeat (first | (with_reducible first | exact HB.out | apply below_alloc | apply pw_below_drewN | apply below_drew1 | refine below_set ?_ GE110.out | refine below_set ?_ GE115.out) | exact HB.out)⟩⟩
                  · rw [if_neg c31] at H
                    have c31b0 : (((rd_T69 l0 x14_1).f0).toList == a1_0.toList) = false := beq_eq_false_iff_ne.mpr c31
                    have c31b1 : (((rd_T69 l0 x14_1).f0).toList != a1_0.toList) = true := bne_iff_ne.mpr c31
                    by_cases c35 : x5_1.length < 4398046511104
                    · rw [if_pos c35] at H
                      have LMc35 := Aside0.mk c35
                      clear c35
                      obtain ⟨y122, hy122⟩ : ∃ y_ : List (S69), y_ = (x5_1 ++ [(⟨((rd_T69 l0 x14_1).f0), ((rd_T69 l0 x14_1).f1)⟩ : S69)]) := ⟨_, rfl⟩
                      replace H : (bagnallref_rowsSet.l0 kj7 y122 x6_1 l0 (l0.length : Int) (wrap64 (x14_1 + 1)) a1_0 a1_1) = some r := by first | (rw [hy122]; with_reducible exact H) | (have H2_ := (Option.bind_some _ _).symm.trans H; rw [hy122]; with_reducible exact H2_) | (have H2_ := (Option.bind_some _ _).symm.trans H; with_reducible exact H2_) | with_reducible exact H | (rw [hy122]; exact H) | exact H
                      have Ny122 := Aside0.mk hy122
                      clear hy122
                      have H' := Aside0.mk H
                      clear H
                      have hnb36 := NB115_110.out
                      have hnc36 := NB110_115.out
                      have hcz37_0 : wc.cell? ⟨gb115, 0, none⟩ = some (.string ((rd_T69 l0 x14_1).f0)) := (blk_cell BK115.out 0).trans rfl
                      have hcz37_1 : wc.cell? ⟨gb115, 1, none⟩ = some (.string ((rd_T69 l0 x14_1).f1)) := (blk_cell BK115.out 1).trans rfl
                      have hfz37_0 := blk_frozen BK115.out 0
                      have hfz37_1 := blk_frozen BK115.out 1
                      have hcz38_0 : wc.cell? ⟨gb110, 0, none⟩ = some (.string a1_0) := (blk_cell BK110.out 0).trans rfl
                      have hcz38_1 : wc.cell? ⟨gb110, 1, none⟩ = some (.string a1_1) := (blk_cell BK110.out 1).trans rfl
                      have hfz38_0 := blk_frozen BK110.out 0
                      have hfz38_1 := blk_frozen BK110.out 1
                      go_wp2_with (first | ((with_reducible refine gate_builtin (b := .append) (xs := #[.tmp 36, .tmp 38]) rfl ?_); at_builtin; refine Kd.R_append k69 (w0 := w) w.heap.size rfl (.tmp 36) (.tmp 38) 24 69 (.agg #[(.string ⟨#[]⟩), (.string ⟨#[]⟩)]) 32 rfl Try.underlying24 info69 rfl (by decide) (by omega) u5 x5_1 (⟨((rd_T69 l0 x14_1).f0), ((rd_T69 l0 x14_1).f1)⟩ : S69) [.string ((rd_T69 l0 x14_1).f0), .string ((rd_T69 l0 x14_1).f1)] (fun k_ => k_ ≠ gb110 ∧ k_ ≠ gb115) (fun _ => False) rfl rfl ?aP (fun _ hk => hk.elim) ?aF ?aO ?aB ?aS ?aL ?_; (case aP => exact k69_mkM _ _ _ (⟨((rd_T69 l0 x14_1).f0), ((rd_T69 l0 x14_1).f1)⟩ : S69)); (case aB => exact (by repeat (first | (with_reducible first | exact HB.out | apply below_alloc | apply pw_below_drewN | apply below_drew1 | refine below_set ?_ GE110.out | refine below_set ?_ GE115.out) | exact HB.out))); (case aF => exact (fun k_ hk => ⟨Kd.freshB (g := gb110) (o := .cells #[.string a1_0, .string a1_1] 69 (0, 0)) (by (with_reducible repeat (first | refine blk_drewN ?_ _ | refine blk_drew ?_ | refine blk_alloc ?_ _)); exact BK110.out) k_ hk, Kd.freshB (g := gb115) (o := .cells #[.string ((rd_T69 l0 x14_1).f0), .string ((rd_T69 l0 x14_1).f1)] 69 (0, 0)) (by (with_reducible repeat (first | refine blk_drewN ?_ _ | refine blk_drew ?_ | refine blk_alloc ?_ _)); exact BK115.out) k_ hk⟩)); (case aO => exact (by (with_reducible repeat (first | apply Kd.R_alloc | apply Kd.R_drewN | apply Kd.R_drew)); exact HO_5.out)); (case aS => exact (below_size (by repeat (first | (with_reducible first | exact HB.out | apply below_alloc | apply pw_below_drewN | apply below_drew1 | refine below_set ?_ GE110.out | refine below_set ?_ GE115.out) | exact HB.out)))); (case aL => have := LMc35.out; omega); intro v123 w39 ho hb hg hat; rw [← Ny122.out] at ho; have n0_ := Aside0.mk (blk_grown (g := gb110) (o := .cells #[.string a1_0, .string a1_1] 69 (0, 0)) (by (with_reducible repeat (first | refine blk_drewN ?_ _ | refine blk_drew ?_ | refine blk_alloc ?_ _)); exact BK110.out) hg (Kd.R_away HO_5.out (fun _ hk => hk.1))); have n1_ := Aside0.mk (blk_grown (g := gb115) (o := .cells #[.string ((rd_T69 l0 x14_1).f0), .string ((rd_T69 l0 x14_1).f1)] 69 (0, 0)) (by (with_reducible repeat (first | refine blk_drewN ?_ _ | refine blk_drew ?_ | refine blk_alloc ?_ _)); exact BK115.out) hg (Kd.R_away HO_5.out (fun _ hk => hk.2))); have n2_ := Aside0.mk (hb); have n3_ := Aside0.mk (ho); clear BK110; clear BK115; clear HB; clear HO_5; have BK110 := n0_; have BK115 := n1_; have HB := n2_; have HO124 := n3_; clear n0_ n1_ n2_ n3_; clear ho hb hg hat))
                      go_roundg kj7
                      case measure => have := HK1.out; have := HJ7.out; omega
                      case rel => exact ⟨(y122), (x6_1), (wrap64 (x14_1 + 1)), (by first | rfl | (simp; done) | (simp [*]; done)), (by first | rfl | (simp; done) | (simp [*]; done)), H', ⟨by have := HK1.out; have := HJ7.out; omega⟩, ⟨by (with_reducible repeat (first | apply Kd.R_alloc | apply Kd.R_drewN | apply Kd.R_drew)); exact Kd.R_mono HO124.out (fun _ hk => hk.1)⟩, ⟨by (with_reducible repeat (first | refine blk_drewN ?_ _ | refine blk_drew ?_ | refine blk_alloc ?_ _)); exact BK110.out⟩, ⟨by repeat (first | (with_reducible first | exact HB.out | apply below_alloc | apply pw_below_drewN | apply below_drew1 | refine below_set ?_ GE110.out | refine below_set ?_ GE115.out) | exact HB.out)⟩⟩
                    · rw [if_neg c35] at H
                      exact absurd H (by simp)
          · rw [if_neg c7] at H
            exact absurd H (by simp)
        · rw [if_neg c6] at H
          exact absurd H (by simp)
      · rw [if_neg c5] at H
        have c5b0 : decide (x14_1 < (l0.length : Int)) = false := decide_eq_false c5
        clear c5
        by_cases c40 : x6_1 = true
        · subst c40
          have H1 : (some x5_1) = some r := by rw [if_pos rfl] at H; exact H
          clear H
          have H := H1
          clear H1
          obtain rfl := Option.some.inj H
          go_wp2
          go_ret
          exact ⟨_, by first | rfl | (simp [errW_none, errW_some] <;> rfl) | (simp [*, errW_none, errW_some] <;> rfl), by (with_reducible repeat (first | apply Kd.R_alloc | apply Kd.R_drewN | apply Kd.R_drew)); exact Kd.R_mono HO_5.out (fun _ hk => trivial), by repeat (first | (with_reducible first | exact HB.out | apply below_alloc | apply pw_below_drewN | apply below_drew1 | refine below_set ?_ GE110.out) | exact HB.out)⟩
        · replace c40 := Bool.eq_false_iff.mpr c40
          subst c40
          have H1 : (if x5_1.length < 4398046511104 then (some (x5_1 ++ [(⟨a1_0, a1_1⟩ : S69)])) else (none)) = some r := by rw [if_neg (show ¬ (false = true) by decide)] at H; exact H
          clear H
          have H := H1
          clear H1
          by_cases c41 : x5_1.length < 4398046511104
          · rw [if_pos c41] at H
            have LMc41 := Aside0.mk c41
            clear c41
            obtain ⟨y111, hy111⟩ : ∃ y_ : List (S69), y_ = (x5_1 ++ [(⟨a1_0, a1_1⟩ : S69)]) := ⟨_, rfl⟩
            replace H : (some y111) = some r := by first | (rw [hy111]; with_reducible exact H) | (have H2_ := (Option.bind_some _ _).symm.trans H; rw [hy111]; with_reducible exact H2_) | (have H2_ := (Option.bind_some _ _).symm.trans H; with_reducible exact H2_) | with_reducible exact H | (rw [hy111]; exact H) | exact H
            have Ny111 := Aside0.mk hy111
            clear hy111
            obtain rfl := Option.some.inj H
            have hcz42_0 : wr.cell? ⟨gb110, 0, none⟩ = some (.string a1_0) := (blk_cell BK110.out 0).trans rfl
            have hcz42_1 : wr.cell? ⟨gb110, 1, none⟩ = some (.string a1_1) := (blk_cell BK110.out 1).trans rfl
            have hfz42_0 := blk_frozen BK110.out 0
            have hfz42_1 := blk_frozen BK110.out 1
            go_wp2_with (first | ((with_reducible refine gate_builtin (b := .append) (xs := #[.tmp 43, .tmp 45]) rfl ?_); at_builtin; refine Kd.R_append k69 (w0 := w) w.heap.size rfl (.tmp 43) (.tmp 45) 24 69 (.agg #[(.string ⟨#[]⟩), (.string ⟨#[]⟩)]) 32 rfl Try.underlying24 info69 rfl (by decide) (by omega) u5 x5_1 (⟨a1_0, a1_1⟩ : S69) [.string a1_0, .string a1_1] (fun k_ => k_ ≠ gb110) (fun _ => False) rfl rfl ?aP (fun _ hk => hk.elim) ?aF ?aO ?aB ?aS ?aL ?_; (case aP => exact k69_mkM _ _ _ (⟨a1_0, a1_1⟩ : S69)); (case aB => exact (by repeat (first | (with_reducible first | exact HB.out | apply below_alloc | apply pw_below_drewN | apply below_drew1 | refine below_set ?_ GE110.out) | exact HB.out))); (case aF => exact (fun k_ hk => Kd.freshB (g := gb110) (o := .cells #[.string a1_0, .string a1_1] 69 (0, 0)) (by (with_reducible repeat (first | refine blk_drewN ?_ _ | refine blk_drew ?_ | refine blk_alloc ?_ _)); exact BK110.out) k_ hk)); (case aO => exact (by (with_reducible repeat (first | apply Kd.R_alloc | apply Kd.R_drewN | apply Kd.R_drew)); exact HO_5.out)); (case aS => exact (below_size (by repeat (first | (with_reducible first | exact HB.out | apply below_alloc | apply pw_below_drewN | apply below_drew1 | refine below_set ?_ GE110.out) | exact HB.out)))); (case aL => have := LMc41.out; omega); intro v112 w43 ho hb hg hat; rw [← Ny111.out] at ho; have n0_ := Aside0.mk (blk_grown (g := gb110) (o := .cells #[.string a1_0, .string a1_1] 69 (0, 0)) (by (with_reducible repeat (first | refine blk_drewN ?_ _ | refine blk_drew ?_ | refine blk_alloc ?_ _)); exact BK110.out) hg (Kd.R_away HO_5.out (fun _ hk => hk))); have n1_ := Aside0.mk (hb); have n2_ := Aside0.mk (ho); clear BK110; clear HB; clear HO_5; have BK110 := n0_; have HB := n1_; have HO113 := n2_; clear n0_ n1_ n2_; clear ho hb hg hat))
            go_ret
            exact ⟨_, by first | rfl | (simp [errW_none, errW_some] <;> rfl) | (simp [*, errW_none, errW_some] <;> rfl), by (with_reducible repeat (first | apply Kd.R_alloc | apply Kd.R_drewN | apply Kd.R_drew)); exact Kd.R_mono HO113.out (fun _ hk => trivial), by repeat (first | (with_reducible first | exact HB.out | apply below_alloc | apply pw_below_drewN | apply below_drew1 | refine below_set ?_ GE110.out) | exact HB.out)⟩
          · rw [if_neg c41] at H
            exact absurd H (by simp)

/-! ### bagnallref_rowsChanges: function 50 -/
def bagnallref_rowsChanges.l0 : Nat → List (S69) → List (S69) → Int → Int → Option ((List (S69)) × Int)
  | 0, _, _, _, _ => none
  | k + 1, x6, x13, x14, x15 => if x15 < x14 then (if 0 ≤ x15 then (if x15 < (x13.length : Int) then (if (((rd_T69 x13 x15).f0).size : Int) < 1 then (some (([] : List (S69)), 1)) else (if (((rd_T69 x13 x15).f0).size : Int) > 20 then (some (([] : List (S69)), 1)) else (if (((rd_T69 x13 x15).f1).size : Int) > 20 then (some (([] : List (S69)), 1)) else ((bagnallref_rowsSet.f k x6 ((rd_T69 x13 x15).f0) ((rd_T69 x13 x15).f1)).bind fun t127 => (bagnallref_rowsChanges.l0 k t127 x13 x14 (wrap64 (x15 + 1))))))) else (none)) else (none)) else (if (x6.length : Int) > 40 then (some (([] : List (S69)), 10)) else (some (x6, 0)))
def bagnallref_rowsChanges.f (k : Nat) (l0 : List (S69)) (l1 : List (S69)) : Option ((List (S69)) × Int) := if (l1.length : Int) > 60 then (some (([] : List (S69)), 1)) else (bagnallref_rowsChanges.l0 k l0 l1 (l1.length : Int) 0)
theorem bagnallref_rowsChanges.mono_l : ∀ k, (∀ y0 y1 y2 y3, LeO (bagnallref_rowsChanges.l0 k y0 y1 y2 y3) (bagnallref_rowsChanges.l0 (k + 1) y0 y1 y2 y3))
  | 0 => fun _ _ _ _ r h => by simp [bagnallref_rowsChanges.l0] at h
  | k + 1 => by
    have ih0 := bagnallref_rowsChanges.mono_l k
    · intro y0 y1 y2 y3
      unfold bagnallref_rowsChanges.l0
      repeat' first
      | (with_reducible exact ih0 _ _ _ _)
      | (with_reducible exact bagnallref_rowsSet.mono _ _ _ _)
      | (with_reducible exact LeO.refl _)
      | (with_reducible exact LeO.none _)
      | (with_reducible refine LeO.ite ?_ ?_)
      | (with_reducible refine LeO.bind ?_ (fun _ => ?_))
      | exact ih0 _ _ _ _
      | exact bagnallref_rowsSet.mono _ _ _ _
      | exact LeO.none _
      | refine LeO.ite ?_ ?_
      | refine LeO.bind ?_ (fun _ => ?_)
theorem bagnallref_rowsChanges.mono : ∀ a0 a1 k, LeO (bagnallref_rowsChanges.f k a0 a1) (bagnallref_rowsChanges.f (k + 1) a0 a1) := by
  intro a0 a1 k
  have ih0 := bagnallref_rowsChanges.mono_l k
  unfold bagnallref_rowsChanges.f
  repeat' first
      | (with_reducible exact ih0 _ _ _ _)
      | (with_reducible exact bagnallref_rowsSet.mono _ _ _ _)
      | (with_reducible exact LeO.refl _)
      | (with_reducible exact LeO.none _)
      | (with_reducible refine LeO.ite ?_ ?_)
      | (with_reducible refine LeO.bind ?_ (fun _ => ?_))
      | exact ih0 _ _ _ _
      | exact bagnallref_rowsSet.mono _ _ _ _
      | exact LeO.none _
      | refine LeO.ite ?_ ?_
      | refine LeO.bind ?_ (fun _ => ?_)
set_option maxHeartbeats 8000000 in
set_option maxRecDepth 100000 in
theorem bagnallref_rowsChanges.calls (k : Nat) (P0_ : Nat → Prop) (A0 : Option Addr) (c0 : Nat) (l0 : List (S69)) (A1 : Option Addr) (c1 : Nat) (l1 : List (S69)) (r1 : List (S69)) (r2 : Int) (w : World) (hs0 : Kd.V k69 69 w w.heap.size (fun k_ => P0_ k_) (.slice A0 l0.length c0) l0) (hr1 : Kd.C k69 w A1 l1.length l1) (hc1 : l1.length ≤ c1) (h : bagnallref_rowsChanges.f k l0 l1 = some (r1, r2)) :
    Calls Try.prog 50 #[.slice A0 l0.length c0, .slice A1 l1.length c1] w fun e w' => ∃ v0_ : Value, e = .returned (.tuple #[v0_, .int .i64 r2]) ∧ Kd.V k69 69 w' w.heap.size (fun k_ => (P0_ k_ ∨ w.heap.size ≤ k_)) v0_ r1 ∧ Below w.heap.size w w' := by
  have hu69 := Try.underlying69
  have HO0 := Aside0.mk (show Kd.V k69 69 w w.heap.size (fun k_ => (P0_ k_ ∨ w.heap.size ≤ k_)) (.slice A0 l0.length c0) l0 from Kd.V_mono hs0 (fun k_ hk => .inl hk))
  have HR1 := Aside0.mk hr1
  have HC1 := Aside0.mk hc1
  clear hr1 hc1
  have HB := Aside0.mk (Below.refl w.heap.size w)
  have H : (if (l1.length : Int) > 60 then (some (([] : List (S69)), 1)) else (bagnallref_rowsChanges.l0 k l0 l1 (l1.length : Int) 0)) = some (r1, r2) := h
  clear h
  by_cases c3 : (l1.length : Int) > 60
  · rw [if_pos c3] at H
    have c3b0 : decide (60 < (l1.length : Int)) = true := decide_eq_true c3
    have c3b1 : decide (60 < l1.length) = true := decide_eq_true (by omega)
    clear c3
    simp only [Option.some.injEq, Prod.mk.injEq] at H
    obtain ⟨rfl, rfl⟩ := H
    go_enter Try.func50, Try.ntmps50
    go_wp2
    go_ret2
    exact ⟨_, by first | rfl | (simp [errW_none, errW_some] <;> rfl) | (simp [*, errW_none, errW_some] <;> rfl), (by first | exact Kd.V_nil _ _ _ _ _ | exact Kd.V_mono (Kd.R_V (by first | exact Kd.R_nil _ _ _ _ _ | exact Kd.N_nil _ _ _ _ _ | exact Kd.V_nil _ _ _ _ _ | exact Kd.Q_nil _ _ _ _ _ | exact Kd.S_nil _ _ _ _ _)) (fun k_ hk => by first | exact ⟨(.inr (hk.1)), hk.2⟩ | exact (.inr (hk)))), by repeat (first | (with_reducible first | exact HB.out | apply below_alloc | apply pw_below_drewN | apply below_drew1) | exact HB.out)⟩
  · rw [if_neg c3] at H
    have c3b0 : decide (60 < (l1.length : Int)) = false := decide_eq_false c3
    have c3b1 : decide (60 < l1.length) = false := decide_eq_false (by omega)
    clear c3
    have H' := Aside0.mk H
    clear H
    go_enter Try.func50, Try.ntmps50
    go_wp2
    go_loopg [6, 15] k (fun kq v6 v15 w' => ∃ (x6_1 : List (S69)) (x15_1 : Int), v15 = .int .i64 x15_1 ∧ Aside0 (bagnallref_rowsChanges.l0 kq x6_1 l1 (l1.length : Int) x15_1 = some (r1, r2)) ∧ Aside0 (kq ≤ k) ∧ Aside0 (Kd.V k69 69 w' w.heap.size (fun k_ => (P0_ k_ ∨ w.heap.size ≤ k_)) v6 x6_1) ∧ Aside0 (Below w.heap.size w w'))
    case atStart => exact ⟨(l0), (0), (by first | rfl | (simp; done) | (simp [*]; done)), H', ⟨Nat.le_refl _⟩, ⟨by (with_reducible repeat (first | apply Kd.V_alloc | apply Kd.V_drewN | apply Kd.V_drew)); exact HO0.out⟩, ⟨by repeat (first | (with_reducible first | exact HB.out | apply below_alloc | apply pw_below_drewN | apply below_drew1) | exact HB.out)⟩⟩
    case round =>
      clear H'
      try clear c1
      try clear p2
      try clear c3
      try clear c3b0
      try clear c3b1
      obtain ⟨x6_1, x15_1, rfl, HA, HK1, HO_6, HB⟩ := hrel
      cases gk with
      | zero => exact absurd HA.out (by simp [bagnallref_rowsChanges.l0])
      | succ k1 =>
        have H := HA.out
        clear HA
        simp only [bagnallref_rowsChanges.l0] at H
        by_cases c4 : x15_1 < (l1.length : Int)
        · rw [if_pos c4] at H
          have c4b0 : decide (x15_1 < (l1.length : Int)) = true := decide_eq_true c4
          clear c4
          by_cases c5 : 0 ≤ x15_1
          · rw [if_pos c5] at H
            have c5b0 : decide (0 ≤ x15_1) = true := decide_eq_true c5
            clear c5
            by_cases c6 : x15_1 < (l1.length : Int)
            · rw [if_pos c6] at H
              have c6b0 : decide (x15_1 < (l1.length : Int)) = true := decide_eq_true c6
              clear c6
              by_cases c7 : (((rd_T69 l1 x15_1).f0).size : Int) < 1
              · rw [if_pos c7] at H
                have c7b0 : decide ((((rd_T69 l1 x15_1).f0).size : Int) < 1) = true := decide_eq_true c7
                have c7b1 : decide (((rd_T69 l1 x15_1).f0).size < 1) = true := decide_eq_true (by omega)
                clear c7
                simp only [Option.some.injEq, Prod.mk.injEq] at H
                obtain ⟨rfl, rfl⟩ := H
                have p125 : 0 ≤ (x15_1 : Int) := of_decide_eq_true (by first | (with_reducible assumption) | assumption)
                have q125 : x15_1 < (l1.length : Int) := of_decide_eq_true (by first | (with_reducible assumption) | assumption)
                obtain ⟨ad125, e125, hx125_0, hx125_1⟩ := at_T69 HR1.out x15_1 p125 q125
                cases e125
                replace hx125_0 := (HB.out.cell (World.block_lt_of_cell? w _ hx125_0)).trans hx125_0
                replace hx125_1 := (HB.out.cell (World.block_lt_of_cell? w _ hx125_1)).trans hx125_1
                replace p125 := eq_true p125
                replace q125 := eq_true q125
                go_wp2_with (first | ((with_reducible refine gate_dst (N := 8) rfl ?_); (try (refine gate_guard (by rfl) ?_; dsimp only)); refine box_event ?hg (N := 8) ?hd (cs := #[.string (⟨#[]⟩ : ByteArray), .string (⟨#[]⟩ : ByteArray)]) (t := 69) ?hr ?_; (case hd => rfl); (case hg => rfl); (case hr => first | (go_simp; done) | (go_simp; rfl)); intro gb126 hg w8 hbox hb; have n0_ := Aside0.mk (Kd.V_below (Kd.V_elderB (by (with_reducible repeat (first | apply Kd.V_alloc | apply Kd.V_drewN | apply Kd.V_drew)); exact HO_6.out) gb126 (Nat.le_of_eq hg.symm)) hb); have n1_ := Aside0.mk (below_step (by repeat (first | (with_reducible first | exact HB.out | apply below_alloc | apply pw_below_drewN | apply below_drew1) | exact HB.out)) hb); have n2_ := Aside0.mk (hbox); have n3_ := Aside0.mk ((by rw [hg]; exact (below_size (by repeat (first | (with_reducible first | exact HB.out | apply below_alloc | apply pw_below_drewN | apply below_drew1) | exact HB.out))) : w.heap.size ≤ gb126)); have n4_ := Aside0.mk ((by rw [hg]; exact (below_size (by repeat (first | (with_reducible first | exact HB.out | apply below_alloc | apply pw_below_drewN | apply below_drew1) | exact HB.out))) : w.heap.size ≤ gb126)); clear HO_6; clear HB; have HO_6 := n0_; have HB := n1_; have BK126 := n2_; have GW126 := n3_; have GE126 := n4_; clear n0_ n1_ n2_ n3_ n4_; clear hb hbox hg; have hcz9_0 : w8.cell? ⟨gb126, 0, none⟩ = some (.string (⟨#[]⟩ : ByteArray)) := (blk_cell BK126.out 0).trans rfl; have hcz9_1 : w8.cell? ⟨gb126, 1, none⟩ = some (.string (⟨#[]⟩ : ByteArray)) := (blk_cell BK126.out 1).trans rfl; have hfz9_0 := blk_frozen BK126.out 0; have hfz9_1 := blk_frozen BK126.out 1))
                go_ret2
                exact ⟨_, by first | rfl | (simp [errW_none, errW_some] <;> rfl) | (simp [*, errW_none, errW_some] <;> rfl), (by first | exact Kd.V_nil _ _ _ _ _ | exact Kd.V_mono (Kd.R_V (by first | exact Kd.R_nil _ _ _ _ _ | exact Kd.N_nil _ _ _ _ _ | exact Kd.V_nil _ _ _ _ _ | exact Kd.Q_nil _ _ _ _ _ | exact Kd.S_nil _ _ _ _ _)) (fun k_ hk => by first | exact ⟨(.inr (hk.1)), hk.2⟩ | exact (.inr (hk)))), by repeat (first | (with_reducible first | exact HB.out | apply below_alloc | apply pw_below_drewN | apply below_drew1 | refine below_set ?_ GE126.out) | exact HB.out)⟩
              · rw [if_neg c7] at H
                have c7b0 : decide ((((rd_T69 l1 x15_1).f0).size : Int) < 1) = false := decide_eq_false c7
                have c7b1 : decide (((rd_T69 l1 x15_1).f0).size < 1) = false := decide_eq_false (by omega)
                clear c7
                by_cases c10 : (((rd_T69 l1 x15_1).f0).size : Int) > 20
                · rw [if_pos c10] at H
                  have c10b0 : decide (20 < (((rd_T69 l1 x15_1).f0).size : Int)) = true := decide_eq_true c10
                  have c10b1 : decide (20 < ((rd_T69 l1 x15_1).f0).size) = true := decide_eq_true (by omega)
                  clear c10
                  simp only [Option.some.injEq, Prod.mk.injEq] at H
                  obtain ⟨rfl, rfl⟩ := H
                  have p125 : 0 ≤ (x15_1 : Int) := of_decide_eq_true (by first | (with_reducible assumption) | assumption)
                  have q125 : x15_1 < (l1.length : Int) := of_decide_eq_true (by first | (with_reducible assumption) | assumption)
                  obtain ⟨ad125, e125, hx125_0, hx125_1⟩ := at_T69 HR1.out x15_1 p125 q125
                  cases e125
                  replace hx125_0 := (HB.out.cell (World.block_lt_of_cell? w _ hx125_0)).trans hx125_0
                  replace hx125_1 := (HB.out.cell (World.block_lt_of_cell? w _ hx125_1)).trans hx125_1
                  replace p125 := eq_true p125
                  replace q125 := eq_true q125
                  go_wp2_with (first | ((with_reducible refine gate_dst (N := 8) rfl ?_); (try (refine gate_guard (by rfl) ?_; dsimp only)); refine box_event ?hg (N := 8) ?hd (cs := #[.string (⟨#[]⟩ : ByteArray), .string (⟨#[]⟩ : ByteArray)]) (t := 69) ?hr ?_; (case hd => rfl); (case hg => rfl); (case hr => first | (go_simp; done) | (go_simp; rfl)); intro gb126 hg w11 hbox hb; have n0_ := Aside0.mk (Kd.V_below (Kd.V_elderB (by (with_reducible repeat (first | apply Kd.V_alloc | apply Kd.V_drewN | apply Kd.V_drew)); exact HO_6.out) gb126 (Nat.le_of_eq hg.symm)) hb); have n1_ := Aside0.mk (below_step (by repeat (first | (with_reducible first | exact HB.out | apply below_alloc | apply pw_below_drewN | apply below_drew1) | exact HB.out)) hb); have n2_ := Aside0.mk (hbox); have n3_ := Aside0.mk ((by rw [hg]; exact (below_size (by repeat (first | (with_reducible first | exact HB.out | apply below_alloc | apply pw_below_drewN | apply below_drew1) | exact HB.out))) : w.heap.size ≤ gb126)); have n4_ := Aside0.mk ((by rw [hg]; exact (below_size (by repeat (first | (with_reducible first | exact HB.out | apply below_alloc | apply pw_below_drewN | apply below_drew1) | exact HB.out))) : w.heap.size ≤ gb126)); clear HO_6; clear HB; have HO_6 := n0_; have HB := n1_; have BK126 := n2_; have GW126 := n3_; have GE126 := n4_; clear n0_ n1_ n2_ n3_ n4_; clear hb hbox hg; have hcz12_0 : w11.cell? ⟨gb126, 0, none⟩ = some (.string (⟨#[]⟩ : ByteArray)) := (blk_cell BK126.out 0).trans rfl; have hcz12_1 : w11.cell? ⟨gb126, 1, none⟩ = some (.string (⟨#[]⟩ : ByteArray)) := (blk_cell BK126.out 1).trans rfl; have hfz12_0 := blk_frozen BK126.out 0; have hfz12_1 := blk_frozen BK126.out 1))
                  go_ret2
                  exact ⟨_, by first | rfl | (simp [errW_none, errW_some] <;> rfl) | (simp [*, errW_none, errW_some] <;> rfl), (by first | exact Kd.V_nil _ _ _ _ _ | exact Kd.V_mono (Kd.R_V (by first | exact Kd.R_nil _ _ _ _ _ | exact Kd.N_nil _ _ _ _ _ | exact Kd.V_nil _ _ _ _ _ | exact Kd.Q_nil _ _ _ _ _ | exact Kd.S_nil _ _ _ _ _)) (fun k_ hk => by first | exact ⟨(.inr (hk.1)), hk.2⟩ | exact (.inr (hk)))), by repeat (first | (with_reducible first | exact HB.out | apply below_alloc | apply pw_below_drewN | apply below_drew1 | refine below_set ?_ GE126.out) | exact HB.out)⟩
                · rw [if_neg c10] at H
                  have c10b0 : decide (20 < (((rd_T69 l1 x15_1).f0).size : Int)) = false := decide_eq_false c10
                  have c10b1 : decide (20 < ((rd_T69 l1 x15_1).f0).size) = false := decide_eq_false (by omega)
                  clear c10
                  by_cases c13 : (((rd_T69 l1 x15_1).f1).size : Int) > 20
                  · rw [if_pos c13] at H
                    have c13b0 : decide (20 < (((rd_T69 l1 x15_1).f1).size : Int)) = true := decide_eq_true c13
                    have c13b1 : decide (20 < ((rd_T69 l1 x15_1).f1).size) = true := decide_eq_true (by omega)
                    clear c13
                    simp only [Option.some.injEq, Prod.mk.injEq] at H
                    obtain ⟨rfl, rfl⟩ := H
                    have p125 : 0 ≤ (x15_1 : Int) := of_decide_eq_true (by first | (with_reducible assumption) | assumption)
                    have q125 : x15_1 < (l1.length : Int) := of_decide_eq_true (by first | (with_reducible assumption) | assumption)
                    obtain ⟨ad125, e125, hx125_0, hx125_1⟩ := at_T69 HR1.out x15_1 p125 q125
                    cases e125
                    replace hx125_0 := (HB.out.cell (World.block_lt_of_cell? w _ hx125_0)).trans hx125_0
                    replace hx125_1 := (HB.out.cell (World.block_lt_of_cell? w _ hx125_1)).trans hx125_1
                    replace p125 := eq_true p125
                    replace q125 := eq_true q125
                    go_wp2_with (first | ((with_reducible refine gate_dst (N := 8) rfl ?_); (try (refine gate_guard (by rfl) ?_; dsimp only)); refine box_event ?hg (N := 8) ?hd (cs := #[.string (⟨#[]⟩ : ByteArray), .string (⟨#[]⟩ : ByteArray)]) (t := 69) ?hr ?_; (case hd => rfl); (case hg => rfl); (case hr => first | (go_simp; done) | (go_simp; rfl)); intro gb126 hg w14 hbox hb; have n0_ := Aside0.mk (Kd.V_below (Kd.V_elderB (by (with_reducible repeat (first | apply Kd.V_alloc | apply Kd.V_drewN | apply Kd.V_drew)); exact HO_6.out) gb126 (Nat.le_of_eq hg.symm)) hb); have n1_ := Aside0.mk (below_step (by repeat (first | (with_reducible first | exact HB.out | apply below_alloc | apply pw_below_drewN | apply below_drew1) | exact HB.out)) hb); have n2_ := Aside0.mk (hbox); have n3_ := Aside0.mk ((by rw [hg]; exact (below_size (by repeat (first | (with_reducible first | exact HB.out | apply below_alloc | apply pw_below_drewN | apply below_drew1) | exact HB.out))) : w.heap.size ≤ gb126)); have n4_ := Aside0.mk ((by rw [hg]; exact (below_size (by repeat (first | (with_reducible first | exact HB.out | apply below_alloc | apply pw_below_drewN | apply below_drew1) | exact HB.out))) : w.heap.size ≤ gb126)); clear HO_6; clear HB; have HO_6 := n0_; have HB := n1_; have BK126 := n2_; have GW126 := n3_; have GE126 := n4_; clear n0_ n1_ n2_ n3_ n4_; clear hb hbox hg; have hcz15_0 : w14.cell? ⟨gb126, 0, none⟩ = some (.string (⟨#[]⟩ : ByteArray)) := (blk_cell BK126.out 0).trans rfl; have hcz15_1 : w14.cell? ⟨gb126, 1, none⟩ = some (.string (⟨#[]⟩ : ByteArray)) := (blk_cell BK126.out 1).trans rfl; have hfz15_0 := blk_frozen BK126.out 0; have hfz15_1 := blk_frozen BK126.out 1))
                    go_ret2
                    exact ⟨_, by first | rfl | (simp [errW_none, errW_some] <;> rfl) | (simp [*, errW_none, errW_some] <;> rfl), (by first | exact Kd.V_nil _ _ _ _ _ | exact Kd.V_mono (Kd.R_V (by first | exact Kd.R_nil _ _ _ _ _ | exact Kd.N_nil _ _ _ _ _ | exact Kd.V_nil _ _ _ _ _ | exact Kd.Q_nil _ _ _ _ _ | exact Kd.S_nil _ _ _ _ _)) (fun k_ hk => by first | exact ⟨(.inr (hk.1)), hk.2⟩ | exact (.inr (hk)))), by repeat (first | (with_reducible first | exact HB.out | apply below_alloc | apply pw_below_drewN | apply below_drew1 | refine below_set ?_ GE126.out) | exact HB.out)⟩
                  · rw [if_neg c13] at H
                    have c13b0 : decide (20 < (((rd_T69 l1 x15_1).f1).size : Int)) = false := decide_eq_false c13
                    have c13b1 : decide (20 < ((rd_T69 l1 x15_1).f1).size) = false := decide_eq_false (by omega)
                    clear c13
                    replace H := Option.bind_eq_some_iff.mp H
                    obtain ⟨t127, A160, H⟩ := H
                    replace H : (bagnallref_rowsChanges.l0 k1 t127 l1 (l1.length : Int) (wrap64 (x15_1 + 1))) = some (r1, r2) := H
                    have A16 := Aside0.mk A160
                    clear A160
                    have H' := Aside0.mk H
                    clear H
                    have p125 : 0 ≤ (x15_1 : Int) := of_decide_eq_true (by first | (with_reducible assumption) | assumption)
                    have q125 : x15_1 < (l1.length : Int) := of_decide_eq_true (by first | (with_reducible assumption) | assumption)
                    obtain ⟨ad125, e125, hx125_0, hx125_1⟩ := at_T69 HR1.out x15_1 p125 q125
                    cases e125
                    replace hx125_0 := (HB.out.cell (World.block_lt_of_cell? w _ hx125_0)).trans hx125_0
                    replace hx125_1 := (HB.out.cell (World.block_lt_of_cell? w _ hx125_1)).trans hx125_1
                    replace p125 := eq_true p125
                    replace q125 := eq_true q125
                    go_wp2_with (first | ((with_reducible refine gate_dst (N := 8) rfl ?_); (try (refine gate_guard (by rfl) ?_; dsimp only)); refine box_event ?hg (N := 8) ?hd (cs := #[.string (⟨#[]⟩ : ByteArray), .string (⟨#[]⟩ : ByteArray)]) (t := 69) ?hr ?_; (case hd => rfl); (case hg => rfl); (case hr => first | (go_simp; done) | (go_simp; rfl)); intro gb126 hg w17 hbox hb; have n0_ := Aside0.mk (Kd.V_below (Kd.V_elderB (by (with_reducible repeat (first | apply Kd.V_alloc | apply Kd.V_drewN | apply Kd.V_drew)); exact HO_6.out) gb126 (Nat.le_of_eq hg.symm)) hb); have n1_ := Aside0.mk (below_step (by repeat (first | (with_reducible first | exact HB.out | apply below_alloc | apply pw_below_drewN | apply below_drew1) | exact HB.out)) hb); have n2_ := Aside0.mk (hbox); have n3_ := Aside0.mk ((by rw [hg]; exact (below_size (by repeat (first | (with_reducible first | exact HB.out | apply below_alloc | apply pw_below_drewN | apply below_drew1) | exact HB.out))) : w.heap.size ≤ gb126)); have n4_ := Aside0.mk ((by rw [hg]; exact (below_size (by repeat (first | (with_reducible first | exact HB.out | apply below_alloc | apply pw_below_drewN | apply below_drew1) | exact HB.out))) : w.heap.size ≤ gb126)); clear HO_6; clear HB; have HO_6 := n0_; have HB := n1_; have BK126 := n2_; have GW126 := n3_; have GE126 := n4_; clear n0_ n1_ n2_ n3_ n4_; clear hb hbox hg; have hcz18_0 : w17.cell? ⟨gb126, 0, none⟩ = some (.string (⟨#[]⟩ : ByteArray)) := (blk_cell BK126.out 0).trans rfl; have hcz18_1 : w17.cell? ⟨gb126, 1, none⟩ = some (.string (⟨#[]⟩ : ByteArray)) := (blk_cell BK126.out 1).trans rfl; have hfz18_0 := blk_frozen BK126.out 0; have hfz18_1 := blk_frozen BK126.out 1; obtain ⟨Ao19, co19, eo19⟩ := Kd.V_slice HO_6.out; subst eo19) | ((with_reducible refine gate_callee (f := 60) rfl ?_); refine goesL_ (some 37) rfl rfl Try.func60 (by kernel_rfl) rfl #[.slice Ao19 x6_1.length co19, .agg #[.string ((rd_T69 l1 x15_1).f0), .string ((rd_T69 l1 x15_1).f1)]] rfl (by (try simp only [List.map_toArray, List.map_cons, List.map_nil]); first | done | rfl | (simp only [List.length_drop, List.length_take]; rfl)) ?_; (with_reducible refine (bagnallref_rowsSet.calls k1 _ _ x6_1 ((rd_T69 l1 x15_1).f0) ((rd_T69 l1 x15_1).f1) t127 _ ?side1 ?side2 A16.out).mono ?_); (case side1 => refine (Kd.V_reads' (e := 69) (base := w.heap.size) (ok := fun k_ => ((P0_ k_ ∨ w.heap.size ≤ k_) ∧ k_ ≠ gb126)) (n := x6_1.length) (c := co19) ?_).2.2; exact (by (with_reducible repeat (first | apply Kd.V_alloc | apply Kd.V_drewN | apply Kd.V_drew)); exact (Kd.V_mono (Kd.V_far (p := ⟨gb126, 1, none⟩) (Kd.V_far (p := ⟨gb126, 0, none⟩) (Kd.V_mono HO_6.out (fun k_ hk => (⟨hk, hk.2⟩ : _ ∧ k_ ≠ gb126))) (fun _ hk => hk.2) (.string ((rd_T69 l1 x15_1).f0))) (fun _ hk => hk.2) (.string ((rd_T69 l1 x15_1).f1))) (fun _ h_ => h_.1)))); (case side2 => exact (Kd.V_reads' HO_6.out).2.1); rintro e w20 ⟨v128, rfl, ho0, hb⟩; refine ⟨_, rfl, ?_⟩; have n0_ := Aside0.mk (Kd.V_elder' (by (with_reducible repeat (first | apply Kd.V_alloc | apply Kd.V_drewN | apply Kd.V_drew)); exact (Kd.V_mono (Kd.V_far (p := ⟨gb126, 1, none⟩) (Kd.V_far (p := ⟨gb126, 0, none⟩) (Kd.V_mono HO_6.out (fun k_ hk => (⟨hk, hk.2⟩ : _ ∧ k_ ≠ gb126))) (fun _ hk => hk.2) (.string ((rd_T69 l1 x15_1).f0))) (fun _ hk => hk.2) (.string ((rd_T69 l1 x15_1).f1))) (fun _ h_ => h_.1))) (Kd.R_base ho0) hb); have n1_ := Aside0.mk (Kd.R_lower (Kd.R_newB (Kd.R_newM (M := fun k_ => (w.heap.size ≤ k_)) ho0 (below_size (by repeat (first | (with_reducible first | exact HB.out | apply below_alloc | apply pw_below_drewN | apply below_drew1 | refine below_set ?_ GE126.out) | exact HB.out))) (fun k_ h_ => h_)) (g := gb126) (o := .cells #[.string ((rd_T69 l1 x15_1).f0), .string ((rd_T69 l1 x15_1).f1)] 69 (0, 0)) (by (with_reducible repeat (first | refine blk_drewN ?_ _ | refine blk_drew ?_ | refine blk_alloc ?_ _)); refine blk_put (cs := #[.string ((rd_T69 l1 x15_1).f0), .string (⟨#[]⟩ : ByteArray)]) ?_ 1 _ rfl; (with_reducible repeat (first | refine blk_drewN ?_ _ | refine blk_drew ?_ | refine blk_alloc ?_ _)); refine blk_put (cs := #[.string (⟨#[]⟩ : ByteArray), .string (⟨#[]⟩ : ByteArray)]) ?_ 0 _ rfl; (with_reducible repeat (first | refine blk_drewN ?_ _ | refine blk_drew ?_ | refine blk_alloc ?_ _)); exact BK126.out)) (below_size (by repeat (first | (with_reducible first | exact HB.out | apply below_alloc | apply pw_below_drewN | apply below_drew1 | refine below_set ?_ GE126.out) | exact HB.out)))); have n2_ := Aside0.mk (blk_below (g := gb126) (o := .cells #[.string ((rd_T69 l1 x15_1).f0), .string ((rd_T69 l1 x15_1).f1)] 69 (0, 0)) (by (with_reducible repeat (first | refine blk_drewN ?_ _ | refine blk_drew ?_ | refine blk_alloc ?_ _)); refine blk_put (cs := #[.string ((rd_T69 l1 x15_1).f0), .string (⟨#[]⟩ : ByteArray)]) ?_ 1 _ rfl; (with_reducible repeat (first | refine blk_drewN ?_ _ | refine blk_drew ?_ | refine blk_alloc ?_ _)); refine blk_put (cs := #[.string (⟨#[]⟩ : ByteArray), .string (⟨#[]⟩ : ByteArray)]) ?_ 0 _ rfl; (with_reducible repeat (first | refine blk_drewN ?_ _ | refine blk_drew ?_ | refine blk_alloc ?_ _)); exact BK126.out) hb); have n3_ := Aside0.mk (below_step (by repeat (first | (with_reducible first | exact HB.out | apply below_alloc | apply pw_below_drewN | apply below_drew1 | refine below_set ?_ GE126.out) | exact HB.out)) hb); clear HO_6; clear BK126; clear HB; have HO_6 := n0_; have HO129 := n1_; have BK126 := n2_; have HB := n3_; clear n0_ n1_ n2_ n3_; (try clear hb); (try clear hb2); (try clear hk); (try clear hi); (try clear ho0)))
                    go_roundg k1
                    case measure => have := HK1.out; omega
                    case rel => exact ⟨(t127), (wrap64 (x15_1 + 1)), (by first | rfl | (simp; done) | (simp [*]; done)), H', ⟨by have := HK1.out; omega⟩, ⟨Kd.V_mono (Kd.R_V (by (with_reducible repeat (first | apply Kd.R_alloc | apply Kd.R_drewN | apply Kd.R_drew)); exact Kd.R_mono HO129.out (fun _ hk => hk.1.1))) (fun k_ hk => by first | exact ⟨(.inr (hk.1)), hk.2⟩ | exact (.inr (hk)))⟩, ⟨by repeat (first | (with_reducible first | exact HB.out | apply below_alloc | apply pw_below_drewN | apply below_drew1 | refine below_set ?_ GE126.out) | exact HB.out)⟩⟩
            · rw [if_neg c6] at H
              exact absurd H (by simp)
          · rw [if_neg c5] at H
            exact absurd H (by simp)
        · rw [if_neg c4] at H
          have c4b0 : decide (x15_1 < (l1.length : Int)) = false := decide_eq_false c4
          clear c4
          by_cases c21 : (x6_1.length : Int) > 40
          · rw [if_pos c21] at H
            have c21b0 : decide (40 < (x6_1.length : Int)) = true := decide_eq_true c21
            have c21b1 : decide (40 < x6_1.length) = true := decide_eq_true (by omega)
            clear c21
            simp only [Option.some.injEq, Prod.mk.injEq] at H
            obtain ⟨rfl, rfl⟩ := H
            obtain ⟨Ao22, co22, eo22⟩ := Kd.V_slice HO_6.out
            subst eo22
            go_wp2
            go_ret2
            exact ⟨_, by first | rfl | (simp [errW_none, errW_some] <;> rfl) | (simp [*, errW_none, errW_some] <;> rfl), (by first | exact Kd.V_nil _ _ _ _ _ | exact Kd.V_mono (Kd.R_V (by first | exact Kd.R_nil _ _ _ _ _ | exact Kd.N_nil _ _ _ _ _ | exact Kd.V_nil _ _ _ _ _ | exact Kd.Q_nil _ _ _ _ _ | exact Kd.S_nil _ _ _ _ _)) (fun k_ hk => by first | exact ⟨(.inr (hk.1)), hk.2⟩ | exact (.inr (hk)))), by repeat (first | (with_reducible first | exact HB.out | apply below_alloc | apply pw_below_drewN | apply below_drew1) | exact HB.out)⟩
          · rw [if_neg c21] at H
            have c21b0 : decide (40 < (x6_1.length : Int)) = false := decide_eq_false c21
            have c21b1 : decide (40 < x6_1.length) = false := decide_eq_false (by omega)
            clear c21
            simp only [Option.some.injEq, Prod.mk.injEq] at H
            obtain ⟨rfl, rfl⟩ := H
            obtain ⟨Ao23, co23, eo23⟩ := Kd.V_slice HO_6.out
            subst eo23
            go_wp2
            go_ret2
            exact ⟨_, by first | rfl | (simp [errW_none, errW_some] <;> rfl) | (simp [*, errW_none, errW_some] <;> rfl), by (with_reducible repeat (first | apply Kd.V_alloc | apply Kd.V_drewN | apply Kd.V_drew)); exact HO_6.out, by repeat (first | (with_reducible first | exact HB.out | apply below_alloc | apply pw_below_drewN | apply below_drew1) | exact HB.out)⟩

/-! ### bagnallref_RowsSet: function 26 -/
def bagnallref_RowsSet.f (k : Nat) (l0 : List (S69)) (l1 : List (S69)) : Option ((List (S69)) × Int) := (bagnallref_RowsFault.f k l0).bind fun t130 => (if t130 = 0 then ((bagnallref_rowsChanges.f k l0 l1).bind fun bt131 => (some (bt131.1, bt131.2))) else (some (([] : List (S69)), t130)))
theorem bagnallref_RowsSet.mono : ∀ a0 a1 k, LeO (bagnallref_RowsSet.f k a0 a1) (bagnallref_RowsSet.f (k + 1) a0 a1) := by
  intro a0 a1 k
  unfold bagnallref_RowsSet.f
  repeat' first
      | (with_reducible exact bagnallref_RowsFault.mono _ _)
      | (with_reducible exact bagnallref_rowsChanges.mono _ _ _)
      | (with_reducible exact LeO.refl _)
      | (with_reducible exact LeO.none _)
      | (with_reducible refine LeO.ite ?_ ?_)
      | (with_reducible refine LeO.bind ?_ (fun _ => ?_))
      | exact bagnallref_RowsFault.mono _ _
      | exact bagnallref_rowsChanges.mono _ _ _
      | exact LeO.none _
      | refine LeO.ite ?_ ?_
      | refine LeO.bind ?_ (fun _ => ?_)
set_option maxHeartbeats 8000000 in
set_option maxRecDepth 100000 in
theorem bagnallref_RowsSet.calls (k : Nat) (P0_ : Nat → Prop) (A0 : Option Addr) (c0 : Nat) (l0 : List (S69)) (A1 : Option Addr) (c1 : Nat) (l1 : List (S69)) (r1 : List (S69)) (r2 : Int) (w : World) (hs0 : Kd.V k69 69 w w.heap.size (fun k_ => P0_ k_) (.slice A0 l0.length c0) l0) (hr1 : Kd.C k69 w A1 l1.length l1) (hc1 : l1.length ≤ c1) (h : bagnallref_RowsSet.f k l0 l1 = some (r1, r2)) :
    Calls Try.prog 26 #[.slice A0 l0.length c0, .slice A1 l1.length c1] w fun e w' => ∃ v0_ : Value, e = .returned (.tuple #[v0_, .int .i64 r2]) ∧ Kd.V k69 69 w' w.heap.size (fun k_ => (P0_ k_ ∨ w.heap.size ≤ k_)) v0_ r1 ∧ Below w.heap.size w w' := by
  have HO0 := Aside0.mk (show Kd.V k69 69 w w.heap.size (fun k_ => (P0_ k_ ∨ w.heap.size ≤ k_)) (.slice A0 l0.length c0) l0 from Kd.V_mono hs0 (fun k_ hk => .inl hk))
  have HR1 := Aside0.mk hr1
  have HC1 := Aside0.mk hc1
  clear hr1 hc1
  have HB := Aside0.mk (Below.refl w.heap.size w)
  have H : ((bagnallref_RowsFault.f k l0).bind fun t130 => (if t130 = 0 then ((bagnallref_rowsChanges.f k l0 l1).bind fun bt131 => (some (bt131.1, bt131.2))) else (some (([] : List (S69)), t130)))) = some (r1, r2) := h
  clear h
  replace H := Option.bind_eq_some_iff.mp H
  obtain ⟨t130, A30, H⟩ := H
  replace H : (if t130 = 0 then ((bagnallref_rowsChanges.f k l0 l1).bind fun bt131 => (some (bt131.1, bt131.2))) else (some (([] : List (S69)), t130))) = some (r1, r2) := H
  have A3 := Aside0.mk A30
  clear A30
  by_cases c4 : t130 = 0
  · rw [if_pos c4] at H
    have c4b0 : (t130 == 0) = true := beq_iff_eq.mpr c4
    have c4b1 : (t130 != 0) = false := bne_eq_false_iff_eq.mpr c4
    clear c4
    replace H := Option.bind_eq_some_iff.mp H
    obtain ⟨⟨t131, t134⟩, A50, H⟩ := H
    replace H : (some (t131, t134)) = some (r1, r2) := H
    have A5 := Aside0.mk A50
    clear A50
    simp only [Option.some.injEq, Prod.mk.injEq] at H
    obtain ⟨rfl, rfl⟩ := H
    go_enter Try.func26, Try.ntmps26
    go_wp2_with (first | ((with_reducible refine gate_callee (f := 19) rfl ?_); refine goesL_ (some 8) rfl rfl Try.func19 (by kernel_rfl) rfl #[.slice A0 l0.length c0] rfl (by (try simp only [List.map_toArray, List.map_cons, List.map_nil]); first | done | rfl | (simp only [List.length_drop, List.length_take]; rfl)) ?_; (with_reducible refine (bagnallref_RowsFault.calls k _ _ l0 t130 _ ?side1 ?side2 A3.out).mono ?_); (case side1 => repeat (first | exact (Kd.V_reads' HO0.out).2.2 | (with_reducible refine Kd.C_alloc ?_ _) | (with_reducible refine Kd.C_drewN ?_ _) | (with_reducible refine Kd.C_drew ?_))); (case side2 => exact (Kd.V_reads' HO0.out).2.1); rintro e w6 ⟨rfl, hb⟩; refine ⟨_, rfl, ?_⟩; have n0_ := Aside0.mk (Kd.V_below (by (with_reducible repeat (first | apply Kd.V_alloc | apply Kd.V_drewN | apply Kd.V_drew)); exact HO0.out) hb); have n1_ := Aside0.mk (below_step (by repeat (first | (with_reducible first | exact HB.out | apply below_alloc | apply pw_below_drewN | apply below_drew1) | exact HB.out)) hb); clear HO0; clear HB; have HO0 := n0_; have HB := n1_; clear n0_ n1_; (try clear hb); (try clear hb2); (try clear hk); (try clear hi)) | ((with_reducible refine gate_callee (f := 50) rfl ?_); refine goesL_ (some 14) rfl rfl Try.func50 (by kernel_rfl) rfl #[.slice A0 l0.length c0, .slice A1 l1.length c1] rfl (by (try simp only [List.map_toArray, List.map_cons, List.map_nil]); first | done | rfl | (simp only [List.length_drop, List.length_take]; rfl)) ?_; (with_reducible refine (bagnallref_rowsChanges.calls k (fun k_ => (P0_ k_ ∨ w.heap.size ≤ k_)) _ _ l0 _ _ l1 t131 t134 _ ?side1 ?side2 ?side3 A5.out).mono ?_); (case side1 => exact HO0.out); (case side2 => repeat (first | exact (Kd.C_below HR1.out HB.out) | (with_reducible refine Kd.C_alloc ?_ _) | (with_reducible refine Kd.C_drewN ?_ _) | (with_reducible refine Kd.C_drew ?_))); (case side3 => exact HC1.out); rintro e w7 ⟨v132, rfl, ho0, hb⟩; refine ⟨_, rfl, ?_⟩; have n0_ := Aside0.mk (Kd.V_below (by (with_reducible repeat (first | apply Kd.V_alloc | apply Kd.V_drewN | apply Kd.V_drew)); exact HO0.out) hb); have n1_ := Aside0.mk (Kd.V_lower (Kd.V_mono (ok' := fun k_ => (P0_ k_ ∨ w.heap.size ≤ k_)) ho0 (fun k_ hk_ => Or.elim hk_ (fun hs_ => hs_) (fun hn_ => (.inr (Nat.le_trans (below_size (by repeat (first | (with_reducible first | exact HB.out | apply below_alloc | apply pw_below_drewN | apply below_drew1) | exact HB.out))) hn_))))) (below_size (by repeat (first | (with_reducible first | exact HB.out | apply below_alloc | apply pw_below_drewN | apply below_drew1) | exact HB.out)))); have n2_ := Aside0.mk (below_step (by repeat (first | (with_reducible first | exact HB.out | apply below_alloc | apply pw_below_drewN | apply below_drew1) | exact HB.out)) hb); clear HO0; clear HB; have HO0 := n0_; have HO133 := n1_; have HB := n2_; clear n0_ n1_ n2_; (try clear hb); (try clear hb2); (try clear hk); (try clear hi); (try clear ho0)))
    go_ret2
    exact ⟨_, by first | rfl | (simp [errW_none, errW_some] <;> rfl) | (simp [*, errW_none, errW_some] <;> rfl), by (with_reducible repeat (first | apply Kd.V_alloc | apply Kd.V_drewN | apply Kd.V_drew)); exact HO133.out, by repeat (first | (with_reducible first | exact HB.out | apply below_alloc | apply pw_below_drewN | apply below_drew1) | exact HB.out)⟩
  · rw [if_neg c4] at H
    have c4b0 : (t130 == 0) = false := beq_eq_false_iff_ne.mpr c4
    have c4b1 : (t130 != 0) = true := bne_iff_ne.mpr c4
    simp only [Option.some.injEq, Prod.mk.injEq] at H
    obtain ⟨rfl, rfl⟩ := H
    go_enter Try.func26, Try.ntmps26
    go_wp2_with (first | ((with_reducible refine gate_callee (f := 19) rfl ?_); refine goesL_ (some 8) rfl rfl Try.func19 (by kernel_rfl) rfl #[.slice A0 l0.length c0] rfl (by (try simp only [List.map_toArray, List.map_cons, List.map_nil]); first | done | rfl | (simp only [List.length_drop, List.length_take]; rfl)) ?_; (with_reducible refine (bagnallref_RowsFault.calls k _ _ l0 t130 _ ?side1 ?side2 A3.out).mono ?_); (case side1 => repeat (first | exact (Kd.V_reads' HO0.out).2.2 | (with_reducible refine Kd.C_alloc ?_ _) | (with_reducible refine Kd.C_drewN ?_ _) | (with_reducible refine Kd.C_drew ?_))); (case side2 => exact (Kd.V_reads' HO0.out).2.1); rintro e w8 ⟨rfl, hb⟩; refine ⟨_, rfl, ?_⟩; have n0_ := Aside0.mk (Kd.V_below (by (with_reducible repeat (first | apply Kd.V_alloc | apply Kd.V_drewN | apply Kd.V_drew)); exact HO0.out) hb); have n1_ := Aside0.mk (below_step (by repeat (first | (with_reducible first | exact HB.out | apply below_alloc | apply pw_below_drewN | apply below_drew1) | exact HB.out)) hb); clear HO0; clear HB; have HO0 := n0_; have HB := n1_; clear n0_ n1_; (try clear hb); (try clear hb2); (try clear hk); (try clear hi)))
    go_ret2
    exact ⟨_, by first | rfl | (simp [errW_none, errW_some] <;> rfl) | (simp [*, errW_none, errW_some] <;> rfl), (by first | exact Kd.V_nil _ _ _ _ _ | exact Kd.V_mono (Kd.R_V (by first | exact Kd.R_nil _ _ _ _ _ | exact Kd.N_nil _ _ _ _ _ | exact Kd.V_nil _ _ _ _ _ | exact Kd.Q_nil _ _ _ _ _ | exact Kd.S_nil _ _ _ _ _)) (fun k_ hk => by first | exact ⟨(.inr (hk.1)), hk.2⟩ | exact (.inr (hk)))), by repeat (first | (with_reducible first | exact HB.out | apply below_alloc | apply pw_below_drewN | apply below_drew1) | exact HB.out)⟩

/-! ### bagnalllaw_sameRows: function 24 -/
def bagnalllaw_sameRows.l0 : Nat → List (S69) → List (S69) → Int → Option (Bool)
  | 0, _, _, _ => none
  | k + 1, x0, x1, x5 => if x5 < (x0.length : Int) then (if 0 ≤ x5 then (if x5 < (x1.length : Int) then (if (!((((rd_T69 x0 x5).f0).toList) == (((rd_T69 x1 x5).f0).toList)) || (!((((rd_T69 x0 x5).f1).toList) == (((rd_T69 x1 x5).f1).toList)))) = true then (some false) else (bagnalllaw_sameRows.l0 k x0 x1 (wrap64 (x5 + 1)))) else (none)) else (none)) else (some true)
def bagnalllaw_sameRows.f (k : Nat) (l0 : List (S69)) (l1 : List (S69)) : Option (Bool) := if (l0.length : Int) = (l1.length : Int) then (bagnalllaw_sameRows.l0 k l0 l1 0) else (some false)
theorem bagnalllaw_sameRows.mono_l : ∀ k, (∀ y0 y1 y2, LeO (bagnalllaw_sameRows.l0 k y0 y1 y2) (bagnalllaw_sameRows.l0 (k + 1) y0 y1 y2))
  | 0 => fun _ _ _ r h => by simp [bagnalllaw_sameRows.l0] at h
  | k + 1 => by
    have ih0 := bagnalllaw_sameRows.mono_l k
    · intro y0 y1 y2
      unfold bagnalllaw_sameRows.l0
      repeat' first
      | (with_reducible exact ih0 _ _ _)
      | (with_reducible exact LeO.refl _)
      | (with_reducible exact LeO.none _)
      | (with_reducible refine LeO.ite ?_ ?_)
      | (with_reducible refine LeO.bind ?_ (fun _ => ?_))
      | exact ih0 _ _ _
      | exact LeO.none _
      | refine LeO.ite ?_ ?_
      | refine LeO.bind ?_ (fun _ => ?_)
theorem bagnalllaw_sameRows.mono : ∀ a0 a1 k, LeO (bagnalllaw_sameRows.f k a0 a1) (bagnalllaw_sameRows.f (k + 1) a0 a1) := by
  intro a0 a1 k
  have ih0 := bagnalllaw_sameRows.mono_l k
  unfold bagnalllaw_sameRows.f
  repeat' first
      | (with_reducible exact ih0 _ _ _)
      | (with_reducible exact LeO.refl _)
      | (with_reducible exact LeO.none _)
      | (with_reducible refine LeO.ite ?_ ?_)
      | (with_reducible refine LeO.bind ?_ (fun _ => ?_))
      | exact ih0 _ _ _
      | exact LeO.none _
      | refine LeO.ite ?_ ?_
      | refine LeO.bind ?_ (fun _ => ?_)
set_option maxHeartbeats 8000000 in
set_option maxRecDepth 100000 in
theorem bagnalllaw_sameRows.calls (k : Nat) (A0 : Option Addr) (c0 : Nat) (l0 : List (S69)) (A1 : Option Addr) (c1 : Nat) (l1 : List (S69)) (r : Bool) (w : World) (hr0 : Kd.C k69 w A0 l0.length l0) (hc0 : l0.length ≤ c0) (hr1 : Kd.C k69 w A1 l1.length l1) (hc1 : l1.length ≤ c1) (h : bagnalllaw_sameRows.f k l0 l1 = some r) :
    Calls Try.prog 24 #[.slice A0 l0.length c0, .slice A1 l1.length c1] w fun e w' => e = .returned (.bool r) ∧ Drawn0 w w' := by
  have hu69 := Try.underlying69
  have HR0 := Aside0.mk hr0
  have HC0 := Aside0.mk hc0
  clear hr0 hc0
  have HR1 := Aside0.mk hr1
  have HC1 := Aside0.mk hc1
  clear hr1 hc1
  have H : (if (l0.length : Int) = (l1.length : Int) then (bagnalllaw_sameRows.l0 k l0 l1 0) else (some false)) = some r := h
  clear h
  by_cases c3 : (l0.length : Int) = (l1.length : Int)
  · rw [if_pos c3] at H
    have c3b0 : ((l0.length : Int) == (l1.length : Int)) = true := beq_iff_eq.mpr c3
    have c3b1 : ((l0.length : Int) != (l1.length : Int)) = false := bne_eq_false_iff_eq.mpr c3
    have c3b2 : (l0.length == l1.length) = true := by first | simpa using c3 | (simp at c3 ⊢; omega)
    clear c3
    have H' := Aside0.mk H
    clear H
    go_enter Try.func24, Try.ntmps24
    go_wp2
    repeat (go_quiet (fail); try go_wp2)
    go_loopg [5] k (fun kq v5 w' => ∃ (x5_1 : Int), v5 = .int .i64 x5_1 ∧ Aside0 (bagnalllaw_sameRows.l0 kq l0 l1 x5_1 = some r) ∧ Aside0 (kq ≤ k) ∧ Drawn0 w w')
    case atStart => exact ⟨(0), (by first | rfl | (simp; done) | (simp [*]; done)), H', ⟨Nat.le_refl _⟩, by repeat (first | exact Drawn0.refl _ | apply Drawn0.step)⟩
    case round =>
      clear H'
      try clear c1
      try clear c2
      try clear p2
      try clear c3
      try clear c3b0
      try clear c3b1
      try clear c3b2
      obtain ⟨x5_1, rfl, HA, HK1, ⟨m1, rfl⟩⟩ := hrel
      cases gk with
      | zero => exact absurd HA.out (by simp [bagnalllaw_sameRows.l0])
      | succ k1 =>
        have H := HA.out
        clear HA
        simp only [bagnalllaw_sameRows.l0] at H
        by_cases c4 : x5_1 < (l0.length : Int)
        · rw [if_pos c4] at H
          have c4b0 : decide (x5_1 < (l0.length : Int)) = true := decide_eq_true c4
          clear c4
          by_cases c5 : 0 ≤ x5_1
          · rw [if_pos c5] at H
            have c5b0 : decide (0 ≤ x5_1) = true := decide_eq_true c5
            clear c5
            by_cases c6 : x5_1 < (l1.length : Int)
            · rw [if_pos c6] at H
              have c6b0 : decide (x5_1 < (l1.length : Int)) = true := decide_eq_true c6
              clear c6
              by_cases c7 : (!((((rd_T69 l0 x5_1).f0).toList) == (((rd_T69 l1 x5_1).f0).toList)) || (!((((rd_T69 l0 x5_1).f1).toList) == (((rd_T69 l1 x5_1).f1).toList)))) = true
              · rw [if_pos c7] at H
                have c7b0 : (!((((rd_T69 l0 x5_1).f0).toList) == (((rd_T69 l1 x5_1).f0).toList)) || (!((((rd_T69 l0 x5_1).f1).toList) == (((rd_T69 l1 x5_1).f1).toList)))) = true := c7
                clear c7
                obtain rfl := Option.some.inj H
                have p135 : 0 ≤ (x5_1 : Int) := of_decide_eq_true (by first | (with_reducible assumption) | assumption)
                have q135 : x5_1 < (l0.length : Int) := of_decide_eq_true (by first | (with_reducible assumption) | assumption)
                obtain ⟨ad135, e135, hx135_0, hx135_1⟩ := at_T69 HR0.out x5_1 p135 q135
                cases e135
                replace p135 := eq_true p135
                replace q135 := eq_true q135
                have p136 : 0 ≤ (x5_1 : Int) := of_decide_eq_true (by first | (with_reducible assumption) | assumption)
                have q136 : x5_1 < (l1.length : Int) := of_decide_eq_true (by first | (with_reducible assumption) | assumption)
                obtain ⟨ad136, e136, hx136_0, hx136_1⟩ := at_T69 HR1.out x5_1 p136 q136
                cases e136
                replace p136 := eq_true p136
                replace q136 := eq_true q136
                go_wp2
                repeat (go_quiet (fail); try go_wp2)
                go_ret
                exact ⟨by first | rfl | (simp; done) | (simp [*]; done), by repeat (first | exact Drawn0.refl _ | apply Drawn0.step)⟩
              · rw [if_neg c7] at H
                have c7b0 : (!((((rd_T69 l0 x5_1).f0).toList) == (((rd_T69 l1 x5_1).f0).toList)) || (!((((rd_T69 l0 x5_1).f1).toList) == (((rd_T69 l1 x5_1).f1).toList)))) = false := by simpa using c7
                clear c7
                have H' := Aside0.mk H
                clear H
                have p135 : 0 ≤ (x5_1 : Int) := of_decide_eq_true (by first | (with_reducible assumption) | assumption)
                have q135 : x5_1 < (l0.length : Int) := of_decide_eq_true (by first | (with_reducible assumption) | assumption)
                obtain ⟨ad135, e135, hx135_0, hx135_1⟩ := at_T69 HR0.out x5_1 p135 q135
                cases e135
                replace p135 := eq_true p135
                replace q135 := eq_true q135
                have p136 : 0 ≤ (x5_1 : Int) := of_decide_eq_true (by first | (with_reducible assumption) | assumption)
                have q136 : x5_1 < (l1.length : Int) := of_decide_eq_true (by first | (with_reducible assumption) | assumption)
                obtain ⟨ad136, e136, hx136_0, hx136_1⟩ := at_T69 HR1.out x5_1 p136 q136
                cases e136
                replace p136 := eq_true p136
                replace q136 := eq_true q136
                go_wp2
                repeat (go_quiet (fail); try go_wp2)
                go_roundg k1
                case measure => have := HK1.out; omega
                case rel => exact ⟨(wrap64 (x5_1 + 1)), (by first | rfl | (simp; done) | (simp [*]; done)), H', ⟨by have := HK1.out; omega⟩, by repeat (first | exact Drawn0.refl _ | apply Drawn0.step)⟩
            · rw [if_neg c6] at H
              exact absurd H (by simp)
          · rw [if_neg c5] at H
            exact absurd H (by simp)
        · rw [if_neg c4] at H
          have c4b0 : decide (x5_1 < (l0.length : Int)) = false := decide_eq_false c4
          clear c4
          obtain rfl := Option.some.inj H
          go_wp2
          repeat (go_quiet (fail); try go_wp2)
          go_ret
          exact ⟨by first | rfl | (simp; done) | (simp [*]; done), by repeat (first | exact Drawn0.refl _ | apply Drawn0.step)⟩
  · rw [if_neg c3] at H
    have c3b0 : ((l0.length : Int) == (l1.length : Int)) = false := beq_eq_false_iff_ne.mpr c3
    have c3b1 : ((l0.length : Int) != (l1.length : Int)) = true := bne_iff_ne.mpr c3
    have c3b2 : (l0.length == l1.length) = false := by first | simpa using c3 | (simp at c3 ⊢; omega)
    obtain rfl := Option.some.inj H
    go_enter Try.func24, Try.ntmps24
    go_wp2
    repeat (go_quiet (fail); try go_wp2)
    go_ret
    exact ⟨by first | rfl | (simp; done) | (simp [*]; done), by repeat (first | exact Drawn0.refl _ | apply Drawn0.step)⟩

end Go.Proofs.Ytnjidfgjldkkcaa.Q
/- Plain laws of the text that stands behind all with a head; of a piece of a table. -/
namespace Go.Proofs.Ytnjidfgjldkkcaa.Plain
open Go.RowKit Go.Proofs.Ytnjidfgjldkkcaa.Q Go.Proofs.YtnjidfgjldkkcaaW.PrintWords

/-- The text behind all with this head; none: no such. -/
def nx : List UInt8 → List UInt8
  | [] => []
  | a :: t => if nx t = [] then (if a = 255 then [] else [a + 1]) else a :: nx t
theorem nx_snoc255 : ∀ l : List UInt8, nx (l ++ [255]) = nx l
  | [] => rfl
  | b :: l => by
    have := nx_snoc255 l
    simp only [List.cons_append, nx, this]
theorem nx_snoc {a : UInt8} (h : a ≠ 255) : ∀ l : List UInt8, nx (l ++ [a]) = l ++ [a + 1]
  | [] => by simp [nx, h]
  | b :: l => by
    have := nx_snoc h l
    simp [nx, this]
theorem up_lt {a : UInt8} (h : a ≠ 255) : (a + 1).toNat = a.toNat + 1 := by
  have h1 : a.toNat < 256 := a.toNat_lt
  have h2 : a.toNat ≠ 255 := fun e => h (UInt8.toNat_inj.1 e)
  rw [UInt8.toNat_add]
  have : (1 : UInt8).toNat = 1 := rfl
  rw [this]; omega
theorem lt_dec {a b : UInt8} : (a < b) = (a.toNat < b.toNat) := propext UInt8.lt_iff_toNat_lt
theorem eq_dec {a b : UInt8} : (a = b) = (a.toNat = b.toNat) := propext UInt8.toNat_inj.symm
/-- Who has the head: he is not ahead of it, and he is ahead of what follows all. -/
theorem has_head : ∀ h k : List UInt8, (k.take h.length = h) ↔ (Op.bytesLess k h = false ∧ (nx h = [] ∨ Op.bytesLess k (nx h) = true))
  | [], k => by cases k <;> simp [Op.bytesLess, nx]
  | a :: t, [] => by simp [Op.bytesLess]
  | a :: t, b :: u => by
    have ih := has_head t u
    simp only [List.length_cons, List.take_succ_cons, List.cons.injEq, ih]
    by_cases hab : b = a
    · subst hab
      have hi : ¬ b < b := by rw [lt_dec]; omega
      by_cases hn : nx t = []
      · by_cases h255 : b = 255
        · simp [Op.bytesLess, nx, hn, h255]
        · have : b < b + 1 := by rw [lt_dec, up_lt h255]; omega
          simp [Op.bytesLess, nx, hn, h255, this]
      · simp [Op.bytesLess, nx, hn]
    · by_cases hlt : b < a
      · simp [Op.bytesLess, hab, hlt]
      · have hlt' : ¬ b.toNat < a.toNat := by rw [← lt_dec]; exact hlt
        have hab' : ¬ b.toNat = a.toNat := by rw [← eq_dec]; exact hab
        by_cases hn : nx t = []
        · by_cases h255 : a = 255
          · have hb := b.toNat_lt
            have : a.toNat = 255 := by rw [h255]; rfl
            omega
          · have h3 : ¬ b < a + 1 := by rw [lt_dec, up_lt h255]; omega
            simp [Op.bytesLess, nx, hn, h255, hab, h3]
        · simp [Op.bytesLess, nx, hn, hab, hlt]
/-- Who is ahead of the head is ahead of what follows all. -/
theorem less_nx : ∀ h k : List UInt8, Op.bytesLess k h = true → nx h = [] ∨ Op.bytesLess k (nx h) = true
  | [], k, h => by cases k <;> simp [Op.bytesLess] at h
  | a :: t, [], _ => by
    cases h : nx (a :: t)
    · exact .inl rfl
    · right; rfl
  | a :: t, b :: u, h => by
    have ih := less_nx t u
    simp only [Op.bytesLess, Bool.or_eq_true, Bool.and_eq_true, decide_eq_true_eq, beq_iff_eq] at h
    by_cases hn : nx t = []
    · by_cases h255 : a = 255
      · left; simp [nx, hn, h255]
      · right
        have : b < a + 1 := by
          rw [lt_dec, up_lt h255]
          rcases h with h | ⟨rfl, _⟩
          · rw [lt_dec] at h; omega
          · omega
        simp [nx, hn, h255, Op.bytesLess, this]
    · right
      rcases h with h | ⟨rfl, h⟩
      · simp [nx, hn, Op.bytesLess, h]
      · rcases ih h with h2 | h2
        · exact absurd h2 hn
        · simp [nx, hn, Op.bytesLess, h2]

theorem toList_str (xs : List Int) : (strOfNums xs).toList = xs.map fun n => UInt8.ofNat n.toNat := by
  rw [Go.ByteArray.toList_eq]; rfl
theorem len_toList (s : ByteArray) : s.toList.length = s.size := by
  rw [Go.ByteArray.toList_eq, Array.length_toList]; rfl
theorem bt_toList {s : ByteArray} {i : Nat} (h : i < s.size) : bt s (i : Int) = ((s.toList[i]'(by rw [len_toList]; exact h)).toNat : Int) := by
  rw [bt_get h]
  simp only [toList_bytes, List.getElem_map]
theorem next_nx (s : ByteArray) : ∀ n, n ≤ s.size → (strOfNums (Q.raised s (trimLen s n))).toList = nx (s.toList.take n)
  | 0, _ => by rw [trimLen, Q.raised, toList_str]; rfl
  | n + 1, hn => by
    have hlt : n < s.toList.length := by rw [len_toList]; omega
    have hb := bt_toList (s := s) (i := n) (by omega)
    rw [List.take_succ_eq_append_getElem hlt]
    by_cases h : bt s (n : Int) = 255
    · have e : s.toList[n] = 255 := by
        rw [hb] at h
        apply UInt8.toNat_inj.1
        have : (255 : UInt8).toNat = 255 := rfl
        rw [this]; omega
      rw [trimLen, if_pos h, next_nx s n (by omega), e, nx_snoc255]
    · have e : s.toList[n] ≠ 255 := by
        intro e
        apply h
        rw [hb, e]; rfl
      have hlt2 : n < (bytesOf s).length := by rw [size_bytes]; omega
      rw [trimLen, if_neg h, nx_snoc e, toList_str, Q.raised, List.take_succ_eq_append_getElem hlt2, List.set_append_right _ _ (by rw [List.length_take]; omega)]
      rw [List.length_take, Nat.min_eq_left (Nat.le_of_lt hlt2), Nat.sub_self, List.set_cons_zero, List.map_append]
      congr 1
      · rw [toList_bytes, ← List.map_take, List.map_map]
        have : ((fun n : Int => UInt8.ofNat n.toNat) ∘ fun b : UInt8 => (b.toNat : Int)) = id := by
          funext b
          simp
        rw [this, List.map_id]
      · rw [List.map_cons, List.map_nil]
        congr 1
        apply UInt8.toNat_inj.1
        have h1 := (s.toList[n]).toNat_lt
        have h2 := up_lt e
        have h3 : (s.toList[n]).toNat ≠ 255 := fun e2 => e (UInt8.toNat_inj.1 e2)
        rw [h2, hb]
        simp only [UInt8.toNat_ofNat']
        omega

/-- The piece of a row between two ends that its order bears. -/
theorem seg {α : Type} (p q : α → Bool) : ∀ l : List α, l.Pairwise (fun x y => p y = true → p x = true) → l.Pairwise (fun x y => q y = true → q x = true) → (∀ x ∈ l, p x = true → q x = true) →
    (l.take (l.takeWhile q).length).drop (l.takeWhile p).length = l.filter fun x => !p x && q x
  | [], _, _, _ => rfl
  | x :: t, hp, hq, hpq => by
    have ih := seg p q t (List.Pairwise.of_cons hp) (List.Pairwise.of_cons hq) (fun y hy => hpq y (by simp [hy]))
    by_cases h1 : p x = true
    · have h2 := hpq x (by simp) h1
      simp [h1, h2, ih]
    · have hpt : ∀ y ∈ t, p y = false := fun y hy => Bool.eq_false_iff.2 fun e => h1 ((List.pairwise_cons.1 hp).1 y hy e)
      have h1' : p x = false := Bool.eq_false_iff.2 h1
      have h0 : (t.takeWhile p).length = 0 := by
        cases t with
        | nil => rfl
        | cons y s => simp [hpt y (by simp)]
      rw [h0, List.drop_zero] at ih
      by_cases h2 : q x = true
      · simp [h1', h2, ih]
      · have hqt : ∀ y ∈ t, q y = false := fun y hy => Bool.eq_false_iff.2 fun e => h2 ((List.pairwise_cons.1 hq).1 y hy e)
        have h2' : q x = false := Bool.eq_false_iff.2 h2
        simp only [List.takeWhile_cons, h1', h2', Bool.not_false, Bool.and_false, List.filter_cons]
        simp only [Bool.false_eq_true, if_false, List.length_nil, List.take_zero, List.drop_zero]
        exact (List.filter_eq_nil_iff.2 (fun y hy => by simp [hqt y hy])).symm
theorem tw_true {α : Type} : ∀ l : List α, l.takeWhile (fun _ => true) = l
  | [] => rfl
  | a :: t => by rw [List.takeWhile_cons_of_pos rfl, tw_true t]
/-- Has a key this head? -/
def pfx (h k : ByteArray) : Bool := decide (k.toList.take h.toList.length = h.toList)
theorem begin_seg {l : List S69} (ha : Asc l) (h : ByteArray) (n : ByteArray) (hn : n.toList = nx h.toList) :
    (l.take (if n.toList = [] then l.length else cut l n)).drop (cut l h) = l.filter (fun r => pfx h r.f0) := by
  have hmono : ∀ k : ByteArray, l.Pairwise (fun x y => kl y.f0 k = true → kl x.f0 k = true) := fun k => ha.imp (fun hxy hy => kl_trans hxy hy)
  have h1 := seg (fun r : S69 => kl r.f0 h) (fun r => if n.toList = [] then true else kl r.f0 n) l (hmono h) (by
    by_cases e : n.toList = []
    · simp only [e, if_pos]; exact ha.imp (fun _ _ => trivial)
    · simpa [e] using hmono n) (fun x _ hx => by
    by_cases e : n.toList = []
    · simp [e]
    · rcases less_nx _ _ hx with h2 | h2
      · rw [← hn] at h2; exact absurd h2 e
      · rw [if_neg e]; unfold kl; rw [hn]; exact h2)
  have e1 : (l.takeWhile fun r => if n.toList = [] then true else kl r.f0 n).length = if n.toList = [] then l.length else cut l n := by
    by_cases e : n.toList = []
    · simp [e, tw_true]
    · simp [e, cut]
  rw [e1] at h1
  refine Eq.trans h1 (List.filter_congr fun r _ => ?_)
  have := has_head h.toList r.f0.toList
  unfold pfx
  rw [Bool.eq_iff_iff, decide_eq_true_eq, this, ← hn]
  unfold kl
  by_cases e : n.toList = []
  · simp [e]
  · simp [e]
theorem same_l0 (l : List S69) (hl : l.length ≤ 1000000) : ∀ (d i : Nat), i + d = l.length → Ev (fun n => bagnalllaw_sameRows.l0 n l l (i : Int)) true
  | 0, i, hi => Ev.step (fun k => rfl) (Ev.neg (by omega) (Ev.now _))
  | d + 1, i, hi => by
    have e2 : wrap64 ((i : Int) + 1) = ((i + 1 : Nat) : Int) := wrap_succ (by omega)
    refine Ev.step (fun k => rfl) (Ev.pos (by omega) (Ev.pos (by omega) (Ev.pos (by omega) (Ev.neg (by simp) ?_))))
    rw [e2]
    exact same_l0 l hl d (i + 1) (by omega)
theorem same_ev (l : List S69) (hl : l.length ≤ 1000000) : Ev (fun n => bagnalllaw_sameRows.f n l l) true := by
  unfold bagnalllaw_sameRows.f
  exact Ev.pos rfl (same_l0 l hl l.length 0 (by omega))
end Go.Proofs.Ytnjidfgjldkkcaa.Plain
/- Plain laws of changes of a table: one change as the reference makes it; many. -/
namespace Go.Proofs.Ytnjidfgjldkkcaa.Plain
open Go.RowKit Go.Proofs.Ytnjidfgjldkkcaa.Q Go.Proofs.YtnjidfgjldkkcaaW.PrintWords
/-- A row more or less, as the reference walks: inn: it is in already. -/
def insW (c : S69) : Bool → List S69 → List S69
  | inn, [] => if inn = true then [] else [c]
  | inn, r :: t => if (!inn && kl c.f0 r.f0) = true then (if r.f0 = c.f0 then c :: insW c true t else c :: r :: insW c true t) else (if r.f0 = c.f0 then insW c inn t else r :: insW c inn t)
def refSet (l : List S69) (c : S69) : List S69 := insW c (decide (c.f1.toList = [])) l
theorem insW_len (c : S69) : ∀ (inn : Bool) (l : List S69), (insW c inn l).length ≤ l.length + 1
  | inn, [] => by unfold insW; split <;> simp
  | inn, r :: t => by
    have h1 := insW_len c true t
    have h2 := insW_len c inn t
    have h3 : (insW c true t).length ≤ t.length := by
      clear h1 h2
      induction t with
      | nil => simp [insW]
      | cons a t ih => unfold insW; simp only [Bool.not_true, Bool.false_and, Bool.false_eq_true, if_false]; split <;> simp <;> omega
    unfold insW
    repeat' split
    all_goals simp only [List.length_cons]; omega
theorem insW_true (c : S69) : ∀ l : List S69, (∀ r ∈ l, kl c.f0 r.f0 = true) → insW c true l = l
  | [], _ => by simp [insW]
  | r :: t, h => by
    have h1 := h r (by simp)
    have hne : ¬ r.f0 = c.f0 := fun e => by rw [e, kl_irr] at h1; cases h1
    unfold insW
    simp only [Bool.not_true, Bool.false_and, Bool.false_eq_true, if_false]
    rw [if_neg hne, insW_true c t (fun x hx => h x (by simp [hx]))]
theorem insW_new (c : S69) (l : List S69) (h : ∀ r ∈ l, kl c.f0 r.f0 = true) : insW c false l = c :: l := by
  cases l with
  | nil => simp [insW]
  | cons r t =>
    have h1 := h r (by simp)
    have hne : ¬ r.f0 = c.f0 := fun e => by rw [e, kl_irr] at h1; cases h1
    unfold insW
    rw [if_pos (by rw [h1]; rfl), if_neg hne, insW_true c t (fun x hx => h x (by simp [hx]))]
theorem cut_cons_true {r : S69} {t : List S69} {k : ByteArray} (h : kl r.f0 k = true) : cut (r :: t) k = cut t k + 1 := by
  unfold cut; rw [List.takeWhile_cons, if_pos h, List.length_cons]
theorem cut_cons_false {r : S69} {t : List S69} {k : ByteArray} (h : ¬ kl r.f0 k = true) : cut (r :: t) k = 0 := by
  unfold cut; rw [List.takeWhile_cons, if_neg h]; rfl
theorem placeB_false {l : List S69} (ha : Asc l) {k : ByteArray} (h : ¬ ∃ h : cut l k < l.length, l[cut l k].f0 = k) : placeB l k = false := Bool.eq_false_iff.2 fun e => h ((placeB_iff ha k).1 e)
theorem stepR_cons {r : S69} {t : List S69} (ha : Asc (r :: t)) (c : S69) (h : kl r.f0 c.f0 = true) : stepR (r :: t) c = r :: stepR t c := by
  have hat := List.Pairwise.of_cons ha
  have hc := cut_cons_true (t := t) h
  have hb : placeB (r :: t) c.f0 = placeB t c.f0 := by
    rw [Bool.eq_iff_iff, placeB_iff ha, placeB_iff hat]
    constructor
    · rintro ⟨h1, h2⟩
      refine ⟨by rw [hc, List.length_cons] at h1; omega, ?_⟩
      simp only [hc, List.getElem_cons_succ] at h2
      exact h2
    · rintro ⟨h1, h2⟩
      refine ⟨by rw [hc, List.length_cons]; omega, ?_⟩
      simp only [hc, List.getElem_cons_succ]
      exact h2
  unfold stepR
  rw [hb, placeI_cut ha, placeI_cut hat, hc]
  split
  · split
    · rfl
    · rfl
  · split
    · rfl
    · unfold insRow; simp
theorem refSet_step : ∀ (l : List S69), Asc l → ∀ c, refSet l c = stepR l c
  | [], ha, c => by
    have hb : placeB [] c.f0 = false := placeB_false ha (by rintro ⟨h, _⟩; simp at h)
    unfold refSet stepR
    rw [hb, if_neg (by simp)]
    by_cases hu : c.f1.toList = []
    · rw [if_pos hu, decide_eq_true hu]; simp [insW]
    · rw [if_neg hu, decide_eq_false hu, placeI_cut ha]; simp [insW, insRow, cut]
  | r :: t, ha, c => by
    have hat := List.Pairwise.of_cons ha
    have hr := (List.pairwise_cons.1 ha).1
    by_cases h1 : kl r.f0 c.f0 = true
    · rw [stepR_cons ha c h1, ← refSet_step t hat c]
      have h2 := kl_asym h1
      have hne : ¬ r.f0 = c.f0 := fun e => by rw [e, kl_irr] at h1; cases h1
      unfold refSet
      conv => lhs; unfold insW
      rw [h2, Bool.and_false, if_neg (by simp), if_neg hne]
    · have h0 := cut_cons_false (t := t) h1
      by_cases h2 : r.f0 = c.f0
      · have hb : placeB (r :: t) c.f0 = true := (placeB_iff ha _).2 ⟨by rw [h0]; simp, by simp only [h0, List.getElem_cons_zero]; exact h2⟩
        have ht : ∀ x ∈ t, kl c.f0 x.f0 = true := fun x hx => h2 ▸ hr x hx
        have hk : kl c.f0 r.f0 = false := by rw [h2]; exact kl_irr _
        unfold refSet stepR
        rw [if_pos hb, placeI_cut ha, h0]
        unfold insW
        rw [hk, Bool.and_false, if_neg (by simp), if_pos h2]
        by_cases hu : c.f1.toList = []
        · rw [if_pos hu, decide_eq_true hu, insW_true c t ht]; rfl
        · rw [if_neg hu, decide_eq_false hu, insW_new c t ht]; rfl
      · have hk : kl c.f0 r.f0 = true := by
          cases hk : kl c.f0 r.f0
          · exact absurd (kl_tri (Bool.eq_false_iff.2 h1) hk) h2
          · rfl
        have ht : ∀ x ∈ t, kl c.f0 x.f0 = true := fun x hx => kl_trans hk (hr x hx)
        have hb : placeB (r :: t) c.f0 = false := placeB_false ha (by rintro ⟨h, e⟩; simp only [h0, List.getElem_cons_zero] at e; exact h2 e)
        unfold refSet stepR
        rw [hb, if_neg (by simp), placeI_cut ha, h0]
        by_cases hu : c.f1.toList = []
        · rw [if_pos hu, decide_eq_true hu, insW_true c _ (by intro x hx; rcases List.mem_cons.1 hx with rfl | hx; exact hk; exact ht x hx)]
        · rw [if_neg hu, decide_eq_false hu, insW_new c _ (by intro x hx; rcases List.mem_cons.1 hx with rfl | hx; exact hk; exact ht x hx)]; rfl
theorem insW_mem (c : S69) : ∀ (inn : Bool) (l : List S69) (x : S69), x ∈ insW c inn l → x = c ∨ x ∈ l
  | inn, [], x, h => by unfold insW at h; split at h <;> simp at h; exact .inl h
  | inn, r :: t, x, h => by
    unfold insW at h
    repeat' split at h
    all_goals simp only [List.mem_cons] at h ⊢
    · rcases h with h | h
      · exact .inl h
      · rcases insW_mem c true t x h with h | h
        · exact .inl h
        · exact .inr (.inr h)
    · rcases h with h | h | h
      · exact .inl h
      · exact .inr (.inl h)
      · rcases insW_mem c true t x h with h | h
        · exact .inl h
        · exact .inr (.inr h)
    · rcases insW_mem c inn t x h with h | h
      · exact .inl h
      · exact .inr (.inr h)
    · rcases h with h | h
      · exact .inr (.inl h)
      · rcases insW_mem c inn t x h with h | h
        · exact .inl h
        · exact .inr (.inr h)
theorem stepR_asc : ∀ (l : List S69), Asc l → ∀ c, Asc (stepR l c)
  | [], ha, c => by
    rw [← refSet_step [] ha c]
    unfold refSet insW
    split
    · exact List.Pairwise.nil
    · exact List.pairwise_singleton _ _
  | r :: t, ha, c => by
    have hat := List.Pairwise.of_cons ha
    have hr := (List.pairwise_cons.1 ha).1
    by_cases h1 : kl r.f0 c.f0 = true
    · rw [stepR_cons ha c h1]
      refine List.Pairwise.cons (fun x hx => ?_) (stepR_asc t hat c)
      rw [← refSet_step t hat c] at hx
      rcases insW_mem c _ t x hx with rfl | hx
      · exact h1
      · exact hr x hx
    · rw [← refSet_step _ ha c]
      by_cases h2 : r.f0 = c.f0
      · have ht : ∀ x ∈ t, kl c.f0 x.f0 = true := fun x hx => h2 ▸ hr x hx
        have hk : kl c.f0 r.f0 = false := by rw [h2]; exact kl_irr _
        unfold refSet insW
        rw [hk, Bool.and_false, if_neg (by simp), if_pos h2]
        cases decide (c.f1.toList = [])
        · rw [insW_new c t ht]; exact List.Pairwise.cons ht hat
        · rw [insW_true c t ht]; exact hat
      · have hk : kl c.f0 r.f0 = true := by
          cases hk : kl c.f0 r.f0
          · exact absurd (kl_tri (Bool.eq_false_iff.2 h1) hk) h2
          · rfl
        have ht : ∀ x ∈ r :: t, kl c.f0 x.f0 = true := by
          intro x hx
          rcases List.mem_cons.1 hx with rfl | hx
          · exact hk
          · exact kl_trans hk (hr x hx)
        unfold refSet
        cases decide (c.f1.toList = [])
        · rw [insW_new c _ ht]; exact List.Pairwise.cons ht ha
        · rw [insW_true c _ ht]; exact ha
theorem changed_asc : ∀ (cs l : List S69), Asc l → Asc (changedF l cs)
  | [], _, h => h
  | c :: t, l, h => changed_asc t (stepR l c) (stepR_asc l h c)
theorem tl_eq {a b : ByteArray} : a.toList = b.toList ↔ a = b := toList_inj
theorem set_l0 (c : S69) (l : List S69) (hl : l.length ≤ 1000000) : ∀ (d i : Nat) (x : List S69) (inn : Bool), i + d = l.length → x.length ≤ 2 * i + 1 →
    Ev (fun n => bagnallref_rowsSet.l0 n x inn l (l.length : Int) (i : Int) c.f0 c.f1) (x ++ insW c inn (l.drop i))
  | 0, i, x, inn, hi, hx => by
    rw [List.drop_of_length_le (by omega)]
    refine Ev.step (fun k => rfl) (Ev.neg (by omega) ?_)
    cases inn
    · exact Ev.neg (by simp) (Ev.pos (by omega) (Ev.to (Ev.now _) (by simp [insW])))
    · exact Ev.pos rfl (Ev.to (Ev.now _) (by simp [insW]))
  | d + 1, i, x, inn, hi, hx => by
    have hlt : i < l.length := by omega
    have e2 : wrap64 ((i : Int) + 1) = ((i + 1 : Nat) : Int) := wrap_succ (by omega)
    rw [List.drop_eq_getElem_cons hlt]
    have hj : ∀ b : Bool, b = (!inn && kl c.f0 l[i].f0) → Ev (fun n => bagnallref_rowsSet.j1 n x inn l (l.length : Int) (i : Int) b c.f0 c.f1 l[i].f0 l[i].f1) (x ++ insW c inn (l[i] :: l.drop (i + 1))) := by
      intro b hb
      refine Ev.step (fun k => rfl) ?_
      unfold insW
      rw [← hb]
      cases b
      · rw [if_neg (by simp)]
        by_cases h : l[i].f0 = c.f0
        · rw [if_pos h]
          refine Ev.pos (tl_eq.2 h) ?_
          rw [e2]
          exact set_l0 c l hl d (i + 1) x inn (by omega) (by omega)
        · rw [if_neg h]
          refine Ev.neg (fun e => h (tl_eq.1 e)) (Ev.pos (by omega) ?_)
          rw [e2]
          exact Ev.to (set_l0 c l hl d (i + 1) (x ++ [l[i]]) inn (by omega) (by simp; omega)) (by rw [List.append_assoc]; rfl)
      · rw [if_pos rfl]
        refine Ev.pos (by omega) (Ev.bind (Ev.lift (r := x ++ [c]) rfl) ?_)
        by_cases h : l[i].f0 = c.f0
        · rw [if_pos h]
          refine Ev.pos (tl_eq.2 h) ?_
          rw [e2]
          exact Ev.to (set_l0 c l hl d (i + 1) (x ++ [c]) true (by omega) (by simp; omega)) (by rw [List.append_assoc]; rfl)
        · rw [if_neg h]
          refine Ev.neg (fun e => h (tl_eq.1 e)) (Ev.pos (by simp; omega) ?_)
          rw [e2]
          exact Ev.to (set_l0 c l hl d (i + 1) (x ++ [c] ++ [l[i]]) true (by omega) (by simp; omega)) (by rw [List.append_assoc, List.append_assoc]; rfl)
    refine Ev.step (fun k => rfl) (Ev.pos (by omega) (Ev.pos (by omega) (Ev.pos (by omega) ?_)))
    rw [rd69 hlt]
    cases inn
    · exact Ev.neg (by simp) (hj _ rfl)
    · exact Ev.pos rfl (hj _ rfl)
theorem set_ev (l : List S69) (c : S69) (hl : l.length ≤ 1000000) : Ev (fun n => bagnallref_rowsSet.f n l c.f0 c.f1) (refSet l c) := by
  unfold bagnallref_rowsSet.f refSet
  have h := set_l0 c l hl l.length 0 [] (c.f1.toList == []) (by omega) (by simp)
  rw [List.drop_zero, List.nil_append] at h
  have e : decide (c.f1.toList = []) = (c.f1.toList == []) := by
    rw [Bool.eq_iff_iff, decide_eq_true_eq, beq_iff_eq]
  rw [e]
  exact h
/-- What the reference says of changes. -/
def chgF (l cs : List S69) : List S69 × Int := if faultF l cs ≠ 0 then ([], faultF l cs) else (changedF l cs, 0)
theorem chg_l0 (cs : List S69) (hc : cs.length ≤ 60) : ∀ (d i : Nat) (now : List S69), i + d = cs.length → Asc now → now.length ≤ 1000 + i →
    Ev (fun n => bagnallref_rowsChanges.l0 n now cs (cs.length : Int) (i : Int)) (if (cs.drop i).any oddR = true then ([], 1) else if 40 < (changedF now (cs.drop i)).length then ([], 10) else (changedF now (cs.drop i), 0))
  | 0, i, now, hi, _, hn => by
    rw [List.drop_of_length_le (by omega)]
    refine Ev.step (fun k => rfl) (Ev.neg (by omega) ?_)
    show Ev _ (if 40 < now.length then ([], 10) else (now, 0))
    by_cases h : 40 < now.length
    · rw [if_pos h]; exact Ev.pos (by omega) (Ev.now _)
    · rw [if_neg h]; exact Ev.neg (by omega) (Ev.now _)
  | d + 1, i, now, hi, ha, hn => by
    have hlt : i < cs.length := by omega
    have e2 : wrap64 ((i : Int) + 1) = ((i + 1 : Nat) : Int) := wrap_succ (by omega)
    rw [List.drop_eq_getElem_cons hlt]
    refine Ev.step (fun k => rfl) (Ev.pos (by omega) (Ev.pos (by omega) (Ev.pos (by omega) ?_)))
    rw [rd69 hlt, e2]
    have ho : oddR cs[i] = decide (cs[i].f0.size < 1 ∨ 20 < cs[i].f0.size ∨ 20 < cs[i].f1.size) := rfl
    rw [List.any_cons]
    by_cases h1 : cs[i].f0.size < 1
    · rw [if_pos (by rw [ho, decide_eq_true (by omega)]; rfl)]
      exact Ev.pos (by omega) (Ev.now _)
    refine Ev.neg (by omega) ?_
    by_cases h2 : 20 < cs[i].f0.size
    · rw [if_pos (by rw [ho, decide_eq_true (by omega)]; rfl)]
      exact Ev.pos (by omega) (Ev.now _)
    refine Ev.neg (by omega) ?_
    by_cases h3 : 20 < cs[i].f1.size
    · rw [if_pos (by rw [ho, decide_eq_true (by omega)]; rfl)]
      exact Ev.pos (by omega) (Ev.now _)
    refine Ev.neg (by omega) ?_
    have hodd : oddR cs[i] = false := by rw [ho]; exact decide_eq_false (by omega)
    rw [hodd, Bool.false_or]
    have hs := set_ev now cs[i] (by omega)
    rw [refSet_step now ha] at hs
    have hsl := stepR_len now cs[i]
    exact Ev.bind hs (chg_l0 cs hc d (i + 1) (stepR now cs[i]) (by omega) (stepR_asc now ha _) (by omega))
theorem chg_ev (l cs : List S69) (ha : Asc l) (hl : l.length ≤ 1000) : Ev (fun n => bagnallref_rowsChanges.f n l cs) (chgF l cs) := by
  unfold bagnallref_rowsChanges.f chgF faultF
  by_cases h0 : 60 < cs.length
  · rw [if_pos h0, if_pos (by omega)]
    exact Ev.pos (by omega) (Ev.now _)
  rw [if_neg h0]
  refine Ev.neg (by omega) ?_
  have h := chg_l0 cs (by omega) cs.length 0 l (by omega) ha (by omega)
  rw [List.drop_zero] at h
  refine Ev.to h ?_
  by_cases h1 : cs.any oddR = true
  · rw [if_pos h1, if_pos h1, if_pos (by omega)]
  rw [if_neg h1, if_neg h1]
  by_cases h2 : 40 < (changedF l cs).length
  · rw [if_pos h2, if_pos h2, if_pos (by omega)]
  · rw [if_neg h2, if_neg h2, if_neg (by omega)]
theorem refRowsSet_ev (l cs : List S69) : Ev (fun n => bagnallref_RowsSet.f n l cs) (setF l cs) := by
  unfold bagnallref_RowsSet.f setF
  refine Ev.bind (fault_ev l) ?_
  by_cases h : rowsErr l = 0
  · rw [if_neg (by omega)]
    obtain ⟨hl, _, ha⟩ := rowsErr_zero h
    exact Ev.pos h (Ev.bind (chg_ev l cs ha (by omega)) (Ev.now _))
  · rw [if_pos h]
    exact Ev.neg h (Ev.now _)
theorem setF_len (l cs : List S69) : (setF l cs).1.length ≤ 1000 := by
  unfold setF
  split
  · simp
  · split
    · simp
    · rename_i h1 h2
      have := rowsErr_len (Decidable.not_not.1 h1)
      have h3 := changedF_len l cs
      have h4 : cs.length ≤ 60 := by
        replace h2 := Decidable.not_not.1 h2
        unfold faultF at h2
        by_cases hh : 60 < cs.length
        · rw [if_pos hh] at h2; omega
        · omega
      show (changedF l cs).length ≤ _
      omega
end Go.Proofs.Ytnjidfgjldkkcaa.Plain
/- The log's plain laws: what is framed is read; what is cut off is not. -/
namespace Go.Proofs.Ytnjidfgjldkkcaa.Plain
open Go.RowKit Go.Proofs.Ytnjidfgjldkkcaa.Q Go.Proofs.YtnjidfgjldkkcaaW.PrintWords
theorem frameF_cons (r : List Int) (last : Bool) : frameF r last = ((r.length : Int) % 256) :: flagOf last :: (r ++ [(sumsF 0 0 (frameB r last)).1 % 256, (sumsF 0 0 (frameB r last)).2 % 256]) := by
  unfold frameF
  rw [show frameB r last = ((r.length : Int) % 256) :: flagOf last :: r from rfl]
  rfl
theorem rd_get {b : List Int} {i : Nat} {x : Int} (h : b[i]? = some x) : rd b (i : Int) = x := by
  unfold rd
  rw [Int.toNat_natCast, List.getD_eq_getElem?_getD, h]
  rfl
theorem firstF_frame (r : List Int) (last : Bool) (rest : List Int) (h1 : 1 ≤ r.length) (h2 : r.length ≤ 60) : firstF (frameF r last ++ rest) = (r, last, r.length + 4) := by
  obtain ⟨b, hb⟩ : ∃ b, b = frameF r last ++ rest := ⟨_, rfl⟩
  have e : b = ((r.length : Int) % 256) :: flagOf last :: (r ++ ((sumsF 0 0 (frameB r last)).1 % 256 :: (sumsF 0 0 (frameB r last)).2 % 256 :: rest)) := by
    rw [hb, frameF_cons]
    simp
  have r0 : rd b 0 = (r.length : Int) := by
    rw [show (0 : Int) = ((0 : Nat) : Int) from rfl, rd_get (x := (r.length : Int) % 256) (by rw [e]; rfl)]
    omega
  have r1 : rd b 1 = flagOf last := by rw [show (1 : Int) = ((1 : Nat) : Int) from rfl]; exact rd_get (by rw [e]; rfl)
  have hk : kOf b = 2 + r.length := by unfold kOf; rw [r0, Int.toNat_natCast]
  have hl : b.length = r.length + 4 + rest.length := by rw [hb, List.length_append, frameF_length]
  have ht : b.take (2 + r.length) = frameB r last := by
    rw [e, show frameB r last = ((r.length : Int) % 256) :: flagOf last :: r from rfl, Nat.add_comm 2, List.take_succ_cons, List.take_succ_cons, List.take_left']
    rfl
  have s0 : rd b ((2 + r.length : Nat) : Int) = (sumsF 0 0 (frameB r last)).1 % 256 := rd_get (by
    rw [e, Nat.add_comm 2, List.getElem?_cons_succ, List.getElem?_cons_succ, List.getElem?_append_right (Nat.le_refl _), Nat.sub_self]
    rfl)
  have s1 : rd b ((2 + r.length + 1 : Nat) : Int) = (sumsF 0 0 (frameB r last)).2 % 256 := rd_get (by
    rw [e, show 2 + r.length + 1 = r.length + 1 + 1 + 1 by omega, List.getElem?_cons_succ, List.getElem?_cons_succ, List.getElem?_append_right (by omega), show r.length + 1 - r.length = 1 by omega]
    rfl)
  have hf : flagOf last ≤ 1 ∧ (flagOf last == 1) = last := by cases last <;> simp [flagOf]
  rw [← hb]
  unfold firstF
  rw [if_pos]
  · rw [hk, ht, r1, hf.2]
    show (r, last, 2 + r.length + 2) = _
    congr 2
    omega
  · unfold headOk sumOk
    rw [hk, ht, s0, s1, r0, r1, hl]
    simp only [Bool.and_eq_true, decide_eq_true_eq, beq_self_eq_true, and_true]
    have := hf.1
    omega
theorem firstF_cut (r : List Int) (last : Bool) (k : Nat) (h1 : 1 ≤ r.length) (h2 : r.length ≤ 60) (hk : k < r.length + 4) : firstF ((frameF r last).take k) = ([], false, 0) := by
  unfold firstF
  rw [if_neg]
  intro h
  rw [Bool.and_eq_true] at h
  obtain ⟨ha, hs⟩ := h
  unfold headOk at ha
  simp only [Bool.and_eq_true, decide_eq_true_eq] at ha
  have hl : ((frameF r last).take k).length = k := by rw [List.length_take, frameF_length]; omega
  have hk2 : 2 ≤ k := by have := ha.1.1.1; omega
  have r0 : rd ((frameF r last).take k) 0 = (r.length : Int) := by
    rw [show (0 : Int) = ((0 : Nat) : Int) from rfl, rd_get (x := (r.length : Int) % 256) (by rw [List.getElem?_take_of_lt (by omega), frameF_cons]; rfl)]
    omega
  unfold sumOk kOf at hs
  rw [r0, Int.toNat_natCast, hl] at hs
  simp only [Bool.and_eq_true, decide_eq_true_eq] at hs
  have := hs.1
  omega
theorem firstF_nil : firstF [] = ([], false, 0) := rfl
theorem readF_succ (b : List Int) (f : Nat) (bs : List (List (List Int))) (ba : List (List Int)) (used n : Nat) : readF b (f + 1) bs ba used n = if (firstF (b.drop n)).2.2 = 0 then (bs, used)
    else if (firstF (b.drop n)).2.1 = true then readF b f (bs ++ [ba ++ [(firstF (b.drop n)).1]]) [] (n + (firstF (b.drop n)).2.2) (n + (firstF (b.drop n)).2.2)
    else readF b f bs (ba ++ [(firstF (b.drop n)).1]) used (n + (firstF (b.drop n)).2.2) := rfl
/-- A whole batch is read. -/
theorem readF_batch (b : List Int) : ∀ (l : List (List Int)) (f : Nat) (bs : List (List (List Int))) (ba : List (List Int)) (used n : Nat) (rest : List Int), l ≠ [] → (∀ r ∈ l, 1 ≤ r.length ∧ r.length ≤ 60) → b.drop n = packF l ++ rest →
    readF b (f + l.length) bs ba used n = readF b f (bs ++ [ba ++ l]) [] (n + (packF l).length) (n + (packF l).length)
  | [], _, _, _, _, _, _, h, _, _ => absurd rfl h
  | r :: t, f, bs, ba, used, n, rest, _, hg, hd => by
    have hr := hg r List.mem_cons_self
    have hd' : b.drop n = frameF r t.isEmpty ++ (packF t ++ rest) := by rw [hd, packF, List.append_assoc]
    have hf := firstF_frame r t.isEmpty (packF t ++ rest) hr.1 hr.2
    rw [List.length_cons, ← Nat.add_assoc, readF_succ, hd', hf]
    simp only
    rw [if_neg (by omega)]
    by_cases ht : t = []
    · subst ht
      rw [if_pos (show ([] : List (List Int)).isEmpty = true from rfl)]
      simp only [packF, List.append_nil, List.length_nil, Nat.add_zero, frameF_length]
    · rw [if_neg (by simpa using ht)]
      have ih := readF_batch b t f bs (ba ++ [r]) used (n + (r.length + 4)) rest ht (fun x hx => hg x (List.mem_cons_of_mem _ hx)) (by rw [← List.drop_drop, hd', ← frameF_length r t.isEmpty, List.drop_left])
      rw [ih, List.append_assoc, List.singleton_append, packF, List.length_append, frameF_length]
      rw [show n + (r.length + 4) + (packF t).length = n + (r.length + 4 + (packF t).length) by omega]
/-- What is cut off is not read. -/
theorem readF_cut (b : List Int) : ∀ (l : List (List Int)) (f : Nat) (bs : List (List (List Int))) (ba : List (List Int)) (used n k : Nat), (∀ r ∈ l, 1 ≤ r.length ∧ r.length ≤ 60) → (k < (packF l).length ∨ k = 0) → b.drop n = (packF l).take k →
    readF b f bs ba used n = (bs, used)
  | l, 0, bs, ba, used, n, k, _, _, _ => rfl
  | [], f + 1, bs, ba, used, n, k, _, _, hd => by
    rw [readF_succ, hd, packF, List.take_nil, firstF_nil, if_pos rfl]
  | r :: t, f + 1, bs, ba, used, n, k, hg, hk, hd => by
    have hr := hg r List.mem_cons_self
    rw [readF_succ, hd, packF]
    by_cases hkr : k < r.length + 4
    · rw [List.take_append_of_le_length (by rw [frameF_length]; omega), firstF_cut r _ k hr.1 hr.2 hkr, if_pos rfl]
    · have hk' : k < (packF (r :: t)).length := by rcases hk with h | h <;> omega
      rw [packF, List.length_append, frameF_length] at hk'
      have ht : t ≠ [] := by rintro rfl; simp [packF] at hk'; omega
      have e : List.take k (frameF r t.isEmpty ++ packF t) = frameF r t.isEmpty ++ (packF t).take (k - (r.length + 4)) := by rw [List.take_append, List.take_of_length_le (by rw [frameF_length]; omega), frameF_length]
      rw [e, firstF_frame r _ _ hr.1 hr.2]
      simp only
      rw [if_neg (by omega), if_neg (by simpa using ht)]
      exact readF_cut b t f bs (ba ++ [r]) used (n + (r.length + 4)) (k - (r.length + 4)) (fun x hx => hg x (List.mem_cons_of_mem _ hx)) (.inl (by omega)) (by rw [← List.drop_drop, hd, packF, e, ← frameF_length r t.isEmpty, List.drop_left])
theorem packF_ge : ∀ l : List (List Int), l.length ≤ (packF l).length
  | [] => Nat.zero_le _
  | r :: t => by
    have := packF_ge t
    rw [packF, List.length_append, frameF_length, List.length_cons]
    omega
def FileOk (F : List (List (List Int))) : Prop := ∀ l ∈ F, l ≠ [] ∧ ∀ r ∈ l, 1 ≤ r.length ∧ r.length ≤ 60
def flatF (F : List (List (List Int))) : List Int := F.flatMap packF
theorem readF_all (b : List Int) : ∀ (F : List (List (List Int))) (f : Nat) (bs : List (List (List Int))) (n : Nat) (rest : List Int), FileOk F → b.drop n = flatF F ++ rest →
    readF b (f + (F.map List.length).sum) bs [] n n = readF b f (bs ++ F) [] (n + (flatF F).length) (n + (flatF F).length)
  | [], f, bs, n, rest, _, _ => by simp [flatF]
  | l :: F, f, bs, n, rest, hF, hd => by
    have hl := hF l List.mem_cons_self
    have e : flatF (l :: F) = packF l ++ flatF F := rfl
    rw [e, List.append_assoc] at hd
    rw [List.map_cons, List.sum_cons, show f + (l.length + (F.map List.length).sum) = (f + (F.map List.length).sum) + l.length by omega]
    rw [readF_batch b l _ bs [] n n (flatF F ++ rest) hl.1 hl.2 hd, List.nil_append]
    rw [readF_all b F f (bs ++ [l]) (n + (packF l).length) rest (fun x hx => hF x (List.mem_cons_of_mem _ hx)) (by rw [← List.drop_drop, hd, List.drop_left])]
    rw [List.append_assoc, List.singleton_append, e, List.length_append, Nat.add_assoc]
theorem flatF_ge : ∀ F : List (List (List Int)), (F.map List.length).sum ≤ (flatF F).length
  | [] => Nat.zero_le _
  | l :: F => by
    have h1 := packF_ge l
    have h2 := flatF_ge F
    rw [show flatF (l :: F) = packF l ++ flatF F from rfl, List.map_cons, List.sum_cons, List.length_append]
    omega
/-- A file with a batch behind it that is cut off: the file's batches. -/
theorem readF_file (F : List (List (List Int))) (l : List (List Int)) (k : Nat) (hF : FileOk F) (hg : ∀ r ∈ l, 1 ≤ r.length ∧ r.length ≤ 60) (hk : k < (packF l).length ∨ k = 0) :
    readF (flatF F ++ (packF l).take k) ((flatF F ++ (packF l).take k).length + 1) [] [] 0 0 = (F, (flatF F).length) := by
  obtain ⟨b, hb⟩ : ∃ b, b = flatF F ++ (packF l).take k := ⟨_, rfl⟩
  rw [← hb]
  have h1 := flatF_ge F
  have h2 : (flatF F).length ≤ b.length := by rw [hb, List.length_append]; omega
  have := readF_all b F (b.length + 1 - (F.map List.length).sum) [] 0 ((packF l).take k) hF (by rw [List.drop_zero, hb])
  rw [show b.length + 1 - (F.map List.length).sum + (F.map List.length).sum = b.length + 1 by omega] at this
  rw [this, List.nil_append, Nat.zero_add]
  exact readF_cut b l _ F [] _ _ k hg hk (by rw [hb, List.drop_left])
end Go.Proofs.Ytnjidfgjldkkcaa.Plain
/- A store's invariant: its file is a row of batches, and these make its table. -/
namespace Go.Proofs.Ytnjidfgjldkkcaa.Plain
open Go.RowKit Go.Proofs.Ytnjidfgjldkkcaa.Q Go.Proofs.YtnjidfgjldkkcaaW.PrintWords
theorem str_bytesOf (s : ByteArray) : strOfNums (bytesOf s) = s := by
  rw [← toList_inj, toList_str, Go.ByteArray.toList_eq]
  unfold bytesOf
  rw [List.map_map]
  conv => rhs; rw [← List.map_id s.data.toList]
  refine List.map_congr_left fun b _ => ?_
  simp
theorem bytesOf_byte (s : ByteArray) : ∀ x ∈ bytesOf s, 0 ≤ x ∧ x ≤ 255 := by
  intro x hx
  unfold bytesOf at hx
  obtain ⟨b, _, rfl⟩ := List.mem_map.1 hx
  have := b.toNat_lt
  omega
def OkR (r : S69) : Prop := 1 ≤ r.f0.size ∧ r.f0.size ≤ 20 ∧ r.f1.size ≤ 20
theorem okR_of {cs : List S69} (h : cs.any oddR = false) : ∀ r ∈ cs, OkR r := fun r hr => by
  have := List.any_eq_false.1 h r hr
  unfold oddR at this
  rw [decide_eq_true_eq] at this
  exact ⟨by omega, by omega, by omega⟩
theorem recordF_length (r : S69) : (recordF r).length = r.f0.size + r.f1.size + 1 := by
  unfold recordF
  rw [List.length_cons, List.length_append, bytesOf_length, bytesOf_length]
theorem rowF_record (r : S69) (h : OkR r) : rowF (recordF r) = (r, true) := by
  obtain ⟨h1, h2, h3⟩ := h
  have r0 : rd (recordF r) 0 = (r.f0.size : Int) := by
    rw [show (0 : Int) = ((0 : Nat) : Int) from rfl]
    exact rd_get rfl
  unfold rowF
  rw [r0, Int.toNat_natCast, recordF_length, if_neg (by omega)]
  have e1 : ((recordF r).take (r.f0.size + 1)).drop 1 = bytesOf r.f0 := by
    unfold recordF
    rw [List.take_succ_cons, List.drop_succ_cons, List.drop_zero, List.take_left' (bytesOf_length _)]
  have e2 : (recordF r).drop (r.f0.size + 1) = bytesOf r.f1 := by
    unfold recordF
    rw [List.drop_succ_cons, List.drop_left' (bytesOf_length _)]
  rw [e1, e2, str_bytesOf, str_bytesOf]
theorem rowsOf_records : ∀ (cs acc : List S69), (∀ r ∈ cs, OkR r) → rowsOf acc (cs.map recordF) = some (acc ++ cs)
  | [], acc, _ => by simp [rowsOf]
  | r :: t, acc, h => by
    rw [List.map_cons]
    unfold rowsOf
    rw [rowF_record r (h r List.mem_cons_self), if_pos rfl, rowsOf_records t _ (fun x hx => h x (List.mem_cons_of_mem _ hx)), List.append_assoc, List.singleton_append]
/-- Batches, one behind the other, that may be. -/
def GoodL : List S69 → List (List S69) → Prop
  | _, [] => True
  | t, cs :: F => cs ≠ [] ∧ (∀ r ∈ cs, OkR r) ∧ (changedF t cs).length ≤ 40 ∧ GoodL (changedF t cs) F
def tableL (t : List S69) (F : List (List S69)) : List S69 := F.foldl changedF t
theorem goodL_snoc : ∀ (F : List (List S69)) (t cs : List S69), GoodL t F → cs ≠ [] → (∀ r ∈ cs, OkR r) → (changedF (tableL t F) cs).length ≤ 40 → GoodL t (F ++ [cs])
  | [], _, _, _, h1, h2, h3 => ⟨h1, h2, h3, trivial⟩
  | _ :: F, _, _, h, h1, h2, h3 => ⟨h.1, h.2.1, h.2.2.1, goodL_snoc F _ _ h.2.2.2 h1 h2 h3⟩
theorem recF_good : ∀ (F : List (List S69)) (t : List S69), GoodL t F → recF t (F.map (·.map recordF)) = some (tableL t F)
  | [], t, _ => rfl
  | c :: F, t, h => by
    rw [List.map_cons, recF_cons, rowsOf_records c [] h.2.1, List.nil_append]
    simp only
    rw [if_neg (by have := h.2.2.1; omega)]
    exact recF_good F _ h.2.2.2
theorem fileOk_good : ∀ (F : List (List S69)) (t : List S69), GoodL t F → FileOk (F.map (·.map recordF))
  | [], _, _ => fun l hl => by simp at hl
  | c :: F, t, h => fun l hl => by
    rcases List.mem_cons.1 hl with rfl | hl
    · refine ⟨by simpa using h.1, fun r hr => ?_⟩
      obtain ⟨q, hq, rfl⟩ := List.mem_map.1 hr
      have := h.2.1 q hq
      rw [recordF_length]
      exact ⟨by omega, by have h1 := this.2.1; have h2 := this.2.2; omega⟩
    · exact fileOk_good F _ h.2.2.2 l hl
def dataL (F : List (List S69)) : List Int := F.flatMap batchF
theorem dataL_flat (F : List (List S69)) : dataL F = flatF (F.map (·.map recordF)) := by
  unfold dataL flatF batchF
  rw [List.flatMap_map]
theorem readS_good (F : List (List S69)) (cs : List S69) (k : Nat) (hF : GoodL [] F) (hc : ∀ r ∈ cs, OkR r) (hk : k < (batchF cs).length ∨ k = 0) : readS (dataL F ++ (batchF cs).take k) = (tableL [] F, ((dataL F).length : Int), 0) := by
  have := readF_file (F.map (·.map recordF)) (cs.map recordF) k (fileOk_good F [] hF) (fun r hr => by
    obtain ⟨q, hq, rfl⟩ := List.mem_map.1 hr
    have := hc q hq
    rw [recordF_length]
    exact ⟨by omega, by have h1 := this.2.1; have h2 := this.2.2; omega⟩) hk
  rw [← dataL_flat] at this
  unfold readS
  rw [show packF (cs.map recordF) = batchF cs from rfl] at this
  rw [this, recF_good F [] hF]
/-- How much room rows take in a file. -/
def room (l : List S69) : Nat := (l.map fun r => r.f0.size + r.f1.size + 5).sum
theorem room_cons (r : S69) (t : List S69) : room (r :: t) = r.f0.size + r.f1.size + 5 + room t := by unfold room; rw [List.map_cons, List.sum_cons]
theorem room_append : ∀ l m : List S69, room (l ++ m) = room l + room m
  | [], m => by simp [room]
  | r :: t, m => by rw [List.cons_append, room_cons, room_cons, room_append t m]; omega
theorem batchF_room : ∀ l : List S69, (batchF l).length = room l
  | [] => rfl
  | r :: t => by
    have := batchF_room t
    unfold batchF at this ⊢
    rw [List.map_cons, packF, List.length_append, frameF_length, recordF_length, this, room_cons]
theorem room_erase : ∀ (l : List S69) (i : Nat), room (l.eraseIdx i) ≤ room l
  | [], _ => by simp
  | r :: t, 0 => by rw [List.eraseIdx_cons_zero, room_cons]; omega
  | r :: t, i + 1 => by have := room_erase t i; rw [List.eraseIdx_cons_succ, room_cons, room_cons]; omega
theorem room_set : ∀ (l : List S69) (i : Nat) (c : S69), room (l.set i c) ≤ room l + (c.f0.size + c.f1.size + 5)
  | [], i, c => by simp
  | r :: t, 0, c => by rw [List.set_cons_zero, room_cons, room_cons]; omega
  | r :: t, i + 1, c => by have := room_set t i c; rw [List.set_cons_succ, room_cons, room_cons]; omega
theorem room_step (l : List S69) (c : S69) : room (stepR l c) ≤ room l + (c.f0.size + c.f1.size + 5) := by
  unfold stepR
  repeat' split
  · have := room_erase l (placeI l c.f0); omega
  · exact room_set l _ c
  · omega
  · unfold insRow
    rw [room_append, room_cons]
    have := room_append (l.take (placeI l c.f0)) (l.drop (placeI l c.f0))
    rw [List.take_append_drop] at this
    omega
theorem room_changed : ∀ (cs l : List S69), room (changedF l cs) ≤ room l + room cs
  | [], l => Nat.le_refl _
  | c :: t, l => by
    have h1 := room_changed t (stepR l c)
    have h2 := room_step l c
    rw [room_cons]
    show room (changedF (stepR l c) t) ≤ _
    omega
theorem room_table : ∀ (F : List (List S69)) (t : List S69), room (tableL t F) ≤ room t + (dataL F).length
  | [], t => Nat.le_refl _
  | c :: F, t => by
    have h1 := room_table F (changedF t c)
    have h2 := room_changed c t
    have h3 := batchF_room c
    rw [show dataL (c :: F) = batchF c ++ dataL F from rfl, List.length_append]
    show room (tableL (changedF t c) F) ≤ _
    omega
/-- A row of a table: it may be, and it holds something. -/
def FullR (r : S69) : Prop := OkR r ∧ ¬ r.f1.toList = []
theorem full_step (l : List S69) (c : S69) (hl : ∀ r ∈ l, FullR r) (hc : OkR c) : ∀ r ∈ stepR l c, FullR r := by
  intro r hr
  unfold stepR at hr
  repeat' split at hr
  · exact hl r (List.mem_of_mem_eraseIdx hr)
  · rename_i h
    rcases List.mem_or_eq_of_mem_set hr with h1 | rfl
    · exact hl r h1
    · exact ⟨hc, h⟩
  · exact hl r hr
  · rename_i h
    unfold insRow at hr
    rcases List.mem_append.1 hr with h1 | h1
    · exact hl r (List.mem_of_mem_take h1)
    · rcases List.mem_cons.1 h1 with rfl | h1
      · exact ⟨hc, h⟩
      · exact hl r (List.mem_of_mem_drop h1)
theorem full_changed : ∀ (cs l : List S69), (∀ r ∈ l, FullR r) → (∀ r ∈ cs, OkR r) → ∀ r ∈ changedF l cs, FullR r
  | [], _, hl, _ => hl
  | c :: t, l, hl, hc => full_changed t (stepR l c) (full_step l c hl (hc c List.mem_cons_self)) (fun x hx => hc x (List.mem_cons_of_mem _ hx))
theorem full_table : ∀ (F : List (List S69)) (t : List S69), GoodL t F → (∀ r ∈ t, FullR r) → ∀ r ∈ tableL t F, FullR r
  | [], _, _, h => h
  | c :: F, t, hF, h => full_table F (changedF t c) hF.2.2.2 (full_changed c t h hF.2.1)
theorem asc_table : ∀ (F : List (List S69)) (t : List S69), Asc t → Asc (tableL t F)
  | [], _, h => h
  | c :: F, t, h => asc_table F (changedF t c) (changed_asc c t h)
theorem len_table : ∀ (F : List (List S69)) (t : List S69), GoodL t F → t.length ≤ 40 → (tableL t F).length ≤ 40
  | [], _, _, h => h
  | c :: F, t, hF, _ => len_table F (changedF t c) hF.2.2.2 hF.2.2.1
theorem step_last : ∀ (l : List S69) (c : S69), Asc (l ++ [c]) → ¬ c.f1.toList = [] → stepR l c = l ++ [c]
  | [], c, _, h => by
    unfold stepR
    rw [if_neg (by unfold placeB; simp), if_neg h]
    rfl
  | r :: t, c, ha, h => by
    rw [List.cons_append] at ha
    obtain ⟨h1, h2⟩ := List.pairwise_cons.1 ha
    have ha' : Asc (r :: t) := by
      have := List.Pairwise.sublist (List.sublist_append_left (r :: t) [c]) ha
      exact this
    rw [stepR_cons ha' c (h1 c (by simp)), step_last t c h2 h]
    rfl
theorem changed_self : ∀ (cs l : List S69), Asc (l ++ cs) → (∀ r ∈ cs, FullR r) → changedF l cs = l ++ cs
  | [], l, _, _ => by simp [changedF]
  | c :: t, l, ha, h => by
    have ha' : Asc (l ++ [c]) := by
      rw [show l ++ c :: t = (l ++ [c]) ++ t by simp] at ha
      exact List.Pairwise.sublist (List.sublist_append_left _ _) ha
    show changedF (stepR l c) t = _
    rw [step_last l c ha' (h c List.mem_cons_self).2, changed_self t (l ++ [c]) (by simpa using ha) (fun x hx => h x (List.mem_cons_of_mem _ hx))]
    simp
/-- A store between its acts. -/
def SInv (data : List Int) (t : List S69) : Prop := ∃ F, GoodL [] F ∧ data = dataL F ∧ t = tableL [] F ∧ data.length ≤ 1200
theorem SInv.nil : SInv [] [] := ⟨[], trivial, rfl, rfl, by simp⟩
theorem SInv.asc {data : List Int} {t : List S69} (h : SInv data t) : Asc t := by
  obtain ⟨F, _, _, rfl, _⟩ := h
  exact asc_table F [] List.Pairwise.nil
theorem SInv.len {data : List Int} {t : List S69} (h : SInv data t) : t.length ≤ 40 := by
  obtain ⟨F, hF, _, rfl, _⟩ := h
  exact len_table F [] hF (by simp)
theorem SInv.full {data : List Int} {t : List S69} (h : SInv data t) : ∀ r ∈ t, FullR r := by
  obtain ⟨F, hF, _, rfl, _⟩ := h
  exact full_table F [] hF (by simp)
theorem SInv.batch {data : List Int} {t : List S69} (h : SInv data t) : (batchF t).length ≤ 1200 := by
  obtain ⟨F, _, rfl, rfl, hl⟩ := h
  have := room_table F []
  rw [batchF_room]
  simp only [room, List.map_nil, List.sum_nil] at this ⊢
  omega
theorem frame_byte (r : List Int) (last : Bool) (h : ∀ x ∈ r, 0 ≤ x ∧ x ≤ 255) : ∀ x ∈ frameF r last, 0 ≤ x ∧ x ≤ 255 := by
  intro x hx
  rw [frameF_cons] at hx
  rcases List.mem_cons.1 hx with rfl | hx
  · omega
  rcases List.mem_cons.1 hx with rfl | hx
  · cases last <;> simp [flagOf]
  rcases List.mem_append.1 hx with hx | hx
  · exact h x hx
  · simp only [List.mem_cons, List.not_mem_nil, or_false] at hx
    rcases hx with rfl | rfl <;> omega
theorem batch_byte : ∀ (l : List S69), (∀ r ∈ l, OkR r) → ∀ x ∈ batchF l, 0 ≤ x ∧ x ≤ 255
  | [], _, x, hx => by simp [batchF, packF] at hx
  | r :: t, h, x, hx => by
    unfold batchF at hx
    rw [List.map_cons, packF] at hx
    rcases List.mem_append.1 hx with hx | hx
    · refine frame_byte _ _ ?_ x hx
      intro y hy
      unfold recordF at hy
      rcases List.mem_cons.1 hy with rfl | hy
      · have := (h r List.mem_cons_self).2.1; omega
      · rcases List.mem_append.1 hy with hy | hy <;> exact bytesOf_byte _ y hy
    · exact batch_byte t (fun q hq => h q (List.mem_cons_of_mem _ hq)) x hx
theorem data_byte : ∀ (F : List (List S69)) (t : List S69), GoodL t F → ∀ x ∈ dataL F, 0 ≤ x ∧ x ≤ 255
  | [], _, _, x, hx => by simp [dataL] at hx
  | c :: F, t, h, x, hx => by
    rcases List.mem_append.1 (show x ∈ batchF c ++ dataL F from hx) with hx | hx
    · exact batch_byte c h.2.1 x hx
    · exact data_byte F _ h.2.2.2 x hx
theorem SInv.byte {data : List Int} {t : List S69} (h : SInv data t) : ∀ x ∈ data, 0 ≤ x ∧ x ≤ 255 := by
  obtain ⟨F, hF, rfl, _, _⟩ := h
  exact data_byte F [] hF
theorem SInv.commit {data : List Int} {t cs : List S69} (h : SInv data t) (hc : sfaultF data t cs = 0) : SInv (data ++ batchF cs) (changedF t cs) := by
  obtain ⟨F, hF, rfl, rfl, hl⟩ := h
  obtain ⟨h1, h2, h3⟩ := sfaultF_ok hc
  obtain ⟨h4, h5, h6⟩ := faultF_ok h2
  refine ⟨F ++ [cs], goodL_snoc F [] cs hF (by rintro rfl; exact h1 rfl) (okR_of h5) h6, ?_, ?_, by rw [List.length_append]; omega⟩
  · unfold dataL; rw [List.flatMap_append]; simp
  · unfold tableL; rw [List.foldl_append]; rfl
theorem SInv.pack {data : List Int} {t : List S69} (h : SInv data t) : SInv (batchF t) t := by
  have hb := h.batch
  have ha := h.asc
  have hf := h.full
  have hl := h.len
  by_cases ht : t = []
  · subst ht; exact SInv.nil
  have e : changedF [] t = t := changed_self t [] ha hf
  exact ⟨[t], ⟨ht, fun r hr => (hf r hr).1, by rw [e]; exact hl, trivial⟩, by simp [dataL], by unfold tableL; exact e.symm, hb⟩
theorem SInv.read {data : List Int} {t cs : List S69} (h : SInv data t) (hc : sfaultF data t cs = 0) (k : Nat) (hk : k < (batchF cs).length) : readS (data ++ (batchF cs).take k) = (t, (data.length : Int), 0) := by
  obtain ⟨F, hF, rfl, rfl, hl⟩ := h
  exact readS_good F cs k hF (okR_of (faultF_ok (sfaultF_ok hc).2.1).2.1) (.inl hk)
theorem SInv.whole {data : List Int} {t : List S69} (h : SInv data t) : readS data = (t, (data.length : Int), 0) := by
  obtain ⟨F, hF, rfl, rfl, hl⟩ := h
  have := readS_good F [] 0 hF (by simp) (.inr rfl)
  rwa [List.take_zero, List.append_nil] at this
end Go.Proofs.Ytnjidfgjldkkcaa.Plain
