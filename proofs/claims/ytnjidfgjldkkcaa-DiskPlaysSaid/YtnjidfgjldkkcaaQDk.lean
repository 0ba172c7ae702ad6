/- The methods of disk.Disk, walked; the disk may be the head of another state (a store). -/
import Derived.Test.YtnjidfgjldkkcaaQMt
import Derived.StillTailTactics
import Derived.Deep.QuietTactic
import Derived.BigQuiet
import Derived.IntWalk
namespace Go.Proofs.Ytnjidfgjldkkcaa.Q
open Go.RowKit Go.Proofs.YtnjidfgjldkkcaaW.PrintWords Go.Proofs.YtnjidfgjldkkcaaW.PrintLast Go.Proofs.YtnjidfgjldkkcaaW.PrintMore
attribute [local go_sem] max2_int min2_int max_two min_two
/-- A disk at block g (type t; behind it the cells rest). -/
def DiskAt (t : Nat) (rest : List Value) (w : World) (base g : Nat) (v : Value) (s : Nat) (data : List Int) : Prop :=
  w.heap[g]? = some (.cells (v :: .int .i64 (s : Int) :: rest).toArray t (0, 0)) ∧ base ≤ g ∧ (Kd.int .u8).R 5 w base (fun _ => True) v data ∧ s ≤ data.length
theorem DiskAt.lt {t : Nat} {rest : List Value} {w : World} {base g : Nat} {v : Value} {s : Nat} {data : List Int} (h : DiskAt t rest w base g v s data) : base ≤ w.heap.size := Nat.le_of_lt (Nat.lt_of_le_of_lt h.2.1 (blk_lt h.1))
theorem DiskAt.cells {t : Nat} {rest : List Value} {w : World} {base g : Nat} {v : Value} {s : Nat} {data : List Int} (h : DiskAt t rest w base g v s data) :
    w.cell? ⟨g, 0, none⟩ = some v ∧ w.cell? ⟨g, 1, none⟩ = some (.int .i64 (s : Int)) ∧ w.frozen? ⟨g, 0, none⟩ = false ∧ w.frozen? ⟨g, 1, none⟩ = false :=
  ⟨by rw [blk_cell h.1]; rfl, by rw [blk_cell h.1]; rfl, blk_frozen h.1 0, blk_frozen h.1 1⟩
theorem DiskAt.keep {t : Nat} {rest : List Value} {w w' : World} {base B g : Nat} {v : Value} {s : Nat} {data : List Int} {T : List Nat} (h : DiskAt t rest w base g v s data) (hm : ModT T B w w') (ht : t ∉ T) (h5 : 5 ∉ T) : DiskAt t rest w' base g v s data :=
  ⟨hm.keep h.1 ht, h.2.1, hm.R h.2.2.1 (by intro q hq; simp [Kd.int, Kd.scalar] at hq; subst hq; exact h5), h.2.2.2⟩
/-- How a method of a disk ends. -/
def DkPost (t : Nat) (rest : List Value) (base g : Nat) (w : World) (r : Value) (s : Nat) (d : List Int) (e : Ending) (w' : World) : Prop := ∃ v', e = .returned r ∧ DiskAt t rest w' base g v' s d ∧ ModT [t, 5] base w w'
def wrCode (d b : List Int) : Int := if 1200 < d.length + b.length then 10 else 0
def wrData (d b : List Int) : List Int := if 1200 < d.length + b.length then d else d ++ b
set_option maxRecDepth 100000 in
set_option maxHeartbeats 4000000 in
theorem disk_Write (t : Nat) (rest : List Value) (base g : Nat) (v : Value) (s : Nat) (data b : List Int) (A : Option Addr) (c m : Nat) (w : World) (hd : DiskAt t rest w base g v s data) (ht : t ≠ 5)
    (hC : (Kd.int .u8).C w A m b) (hc : m ≤ c) (hm : b.length = m) (hl : data.length + b.length ≤ 1000000000000000000) :
    Calls Try.prog 87 #[.pointer (some ⟨g, 0, none⟩), .slice A m c] w (DkPost t rest base g w (.int .i64 (wrCode data b)) s (wrData data b)) := by
  subst hm
  have HD := Aside0.mk hd
  have HC := Aside0.mk hC
  obtain ⟨A0, c0, rfl⟩ := Kd.R_slice hd.2.2.1
  obtain ⟨h0, h1, hf0, hf1⟩ := hd.cells
  clear hd hC
  go_enter Try.func87, Try.ntmps87
  by_cases hlt : 1200 < data.length + b.length
  · have hr : Aside0 (wrCode data b = 10 ∧ wrData data b = data) := ⟨by unfold wrCode wrData; rw [if_pos hlt, if_pos hlt]; exact ⟨rfl, rfl⟩⟩
    have hlt' : (1200 : Int) < (data.length : Int) + (b.length : Int) := by omega
    go_wp2
    go_ret
    rw [hr.out.1, hr.out.2]
    exact ⟨_, rfl, HD.out, ModT.refl _ _ _⟩
  · have hr : Aside0 (wrCode data b = 0 ∧ wrData data b = data ++ b) := ⟨by unfold wrCode wrData; rw [if_neg hlt, if_neg hlt]; exact ⟨rfl, rfl⟩⟩
    have hlt' : (data.length : Int) + (b.length : Int) ≤ 1200 := by omega
    go_wp2_with ((with_reducible refine gate_builtin (b := .append) (xs := #[.tmp 18, .tmp 19]) rfl ?_); at_builtin; refine Kd.R_append_rows (Kd.int .u8) (w0 := w) base rfl (.tmp 18) (.tmp 19) 36 5 (.int .u8 0) 1 rfl Try.underlying36 info5 rfl (by decide) (by omega) (.slice A0 data.length c0) data b A b.length c (fun _ => True) (fun _ => False) rfl rfl HD.out.2.2.1 HC.out (fun x cs h => h) (fun _ h => h.elim) (fun _ h => trivial) (Below.refl _ _) HD.out.lt (by omega) ?_; intro v1 w1 ho hb hg hat; obtain ⟨A1, c1, rfl⟩ := Kd.R_slice ho; rw [List.length_append] at ho; have HO := Aside0.mk ho; have HM := Aside0.mk (ModT.grown (T := [t, 5]) hg HD.out.2.2.1 (by simp) (Nat.le_refl base)); have HG := Aside0.mk (blk_grown HD.out.1 hg (Kd.R_ne HD.out.2.2.1 HD.out.1 (Ne.symm ht))); have f1 := blk_frozen HG.out 0; have g1 : w1.cell? ⟨g, 0, none⟩ = some (.slice A0 data.length c0) := (by rw [blk_cell HG.out]; rfl); clear ho hb hg hat)
    go_ret
    rw [hr.out.1, hr.out.2]
    exact ⟨_, rfl, ⟨by rw [heap_set1 HG.out]; rfl, HD.out.2.1, Kd.R_set HO.out HG.out (by intro q hq; simp [Kd.int, Kd.scalar] at hq; omega) _ _, by have := HD.out.2.2.2; rw [List.length_append]; omega⟩, HM.out.trans (ModT.set_ HG.out (by simp) HD.out.2.1 _)⟩
theorem noR5 {t : Nat} (ht : t ≠ 5) : ∀ q, q ∈ 5 :: (Kd.int .u8).E → q ≠ t := by
  intro q hq; simp [Kd.int, Kd.scalar] at hq; omega
set_option maxRecDepth 100000 in
set_option maxHeartbeats 4000000 in
theorem disk_Sync (t : Nat) (rest : List Value) (base g : Nat) (v : Value) (s : Nat) (data : List Int) (w : World) (hd : DiskAt t rest w base g v s data) (ht : t ≠ 5) :
    Calls Try.prog 88 #[.pointer (some ⟨g, 0, none⟩)] w (DkPost t rest base g w (.tuple #[]) data.length data) := by
  have HD := Aside0.mk hd
  obtain ⟨A0, c0, rfl⟩ := Kd.R_slice hd.2.2.1
  obtain ⟨h0, h1, hf0, hf1⟩ := hd.cells
  clear hd
  go_enter Try.func88, Try.ntmps88
  go_wp2
  go_end0
  exact ⟨_, rfl, ⟨by rw [heap_set1 HD.out.1]; rfl, HD.out.2.1, Kd.R_set HD.out.2.2.1 HD.out.1 (noR5 ht) _ _, Nat.le_refl _⟩, ModT.set_ HD.out.1 (by simp) HD.out.2.1 _⟩
set_option maxRecDepth 100000 in
set_option maxHeartbeats 4000000 in
theorem disk_Trim (t : Nat) (rest : List Value) (base g : Nat) (v : Value) (s : Nat) (data : List Int) (n : Nat) (w : World) (hd : DiskAt t rest w base g v s data) (ht : t ≠ 5) (hn : n ≤ data.length) :
    Calls Try.prog 89 #[.pointer (some ⟨g, 0, none⟩), .int .i64 (n : Int)] w (DkPost t rest base g w (.tuple #[]) n (data.take n)) := by
  have HD := Aside0.mk hd
  obtain ⟨A0, c0, rfl⟩ := Kd.R_slice hd.2.2.1
  have hc := (Kd.R_reads' hd.2.2.1).2.1
  obtain ⟨h0, h1, hf0, hf1⟩ := hd.cells
  clear hd
  go_enter Try.func89, Try.ntmps89
  go_wp2
  go_end0
  have h2 := ModT.set_ (T := [t, 5]) (j := 0) HD.out.1 (by simp) HD.out.2.1 (.slice A0 n c0)
  have e2 := heap_set1 (j := 0) (u := .slice A0 n c0) HD.out.1
  have e3 := heap_set1 (j := 1) (u := .int .i64 (n : Int)) e2
  have hl : (data.take n).length = n := by rw [List.length_take]; omega
  refine ⟨_, rfl, ⟨by rw [e3]; rfl, HD.out.2.1, ?_, by omega⟩, h2.trans (ModT.set_ e2 (by simp) HD.out.2.1 _)⟩
  have := Kd.R_take HD.out.2.2.1 hn
  exact Kd.R_set (Kd.R_set this HD.out.1 (noR5 ht) _ _) e2 (noR5 ht) _ _
def fallN (s n len : Nat) : Nat := s + min n (len - s)
set_option maxRecDepth 100000 in
set_option maxHeartbeats 4000000 in
theorem disk_Fall (t : Nat) (rest : List Value) (base g : Nat) (v : Value) (s : Nat) (data : List Int) (n : Nat) (w : World) (hd : DiskAt t rest w base g v s data) (ht : t ≠ 5) (hl : data.length ≤ 1000000000) :
    Calls Try.prog 90 #[.pointer (some ⟨g, 0, none⟩), .int .i64 (n : Int)] w (DkPost t rest base g w (.tuple #[]) (fallN s n data.length) (data.take (fallN s n data.length))) := by
  have HD := Aside0.mk hd
  obtain ⟨A0, c0, rfl⟩ := Kd.R_slice hd.2.2.1
  have hc := (Kd.R_reads' hd.2.2.1).2.1
  obtain ⟨h0, h1, hf0, hf1⟩ := hd.cells
  have hs := hd.2.2.2
  have HDr : Aside0 (DiskAt t rest w.drew base g (.slice A0 data.length c0) s data) := ⟨⟨hd.1, hd.2.1, Kd.R_drew hd.2.2.1, hd.2.2.2⟩⟩
  clear hd
  have e1 : Aside0 (IntKind.i64.wrap ((data.length : Int) - (s : Int)) = ((data.length - s : Nat) : Int)) := ⟨by rw [IntWalk.i64_in _ (by omega)]; omega⟩
  have e2 : Aside0 ((if ((data.length - s : Nat) : Int) < (n : Int) then ((data.length - s : Nat) : Int) else (n : Int)) = ((min n (data.length - s) : Nat) : Int)) := ⟨by split <;> omega⟩
  have e3 : Aside0 (IntKind.i64.wrap ((s : Int) + ((min n (data.length - s) : Nat) : Int)) = ((fallN s n data.length : Nat) : Int)) := ⟨by unfold fallN; rw [IntWalk.i64_in _ (by omega)]; omega⟩
  have hf : Aside0 (fallN s n data.length ≤ data.length) := ⟨by unfold fallN; omega⟩
  go_enter Try.func90, Try.ntmps90
  go_wp2
  go_still_tail 18, (by kernel_rfl)
  rw [e1.out, e2.out, e3.out]
  change wpList _ _ _ _ _ w.drew
  have hmd : Aside0 (ModT [t, 5] base w w.drew) := ⟨ModT.of_below (below_drew (Below.refl _ _))⟩
  generalize w.drew = w2 at HDr hmd ⊢
  go_wp2_with (go_at_call 89; refine (disk_Trim t rest base g _ s data _ _ HDr.out ht hf.out).mono ?_; rintro e w3 ⟨v', rfl, hd, hm⟩; have HD3 := Aside0.mk hd; have HM3 := Aside0.mk hm; clear hd hm)
  go_end0
  exact ⟨v', rfl, HD3.out, hmd.out.trans HM3.out⟩
/-- One move of a disk: its code; the bytes; how many are synced. -/
def dskStep (d : List Int) (s : Nat) (m : S72) : Int × List Int × Nat :=
  if m.f0 = 1 then (if 1200 < d.length + m.f1.length then (10, d, s) else (0, d ++ m.f1, s))
  else if m.f0 = 2 then (0, d, d.length)
  else if m.f0 = 3 then (if m.f2 < 0 then (2, d, s) else if (d.length : Int) < m.f2 then (2, d, s) else (0, d.take m.f2.toNat, m.f2.toNat))
  else if m.f0 = 4 then (if m.f2 < 0 then (2, d, s) else (0, d.take (fallN s m.f2.toNat d.length), fallN s m.f2.toNat d.length))
  else (3, d, s)
theorem DiskAt.box {t : Nat} {rest : List Value} {w : World} {base g : Nat} {v : Value} {s : Nat} {data : List Int} (h : DiskAt t rest w base g v s data) (o : Obj) : DiskAt t rest (w.alloc o) base g v s data := h.keep (ModT.alloc [] base w o) (by simp) (by simp)
theorem DiskAt.drewN {t : Nat} {rest : List Value} {w : World} {base g : Nat} {v : Value} {s : Nat} {data : List Int} (h : DiskAt t rest w base g v s data) (n : Nat) : DiskAt t rest (w.drewN n) base g v s data := h.keep (ModT.drewN [] base w n) (by simp) (by simp)
set_option maxRecDepth 100000 in
set_option maxHeartbeats 4000000 in
theorem disk_do (t : Nat) (rest : List Value) (base g : Nat) (v : Value) (s : Nat) (data : List Int) (m : S72) (A : Option Addr) (c : Nat) (w : World) (hd : DiskAt t rest w base g v s data) (ht : t ≠ 5)
    (hC : (Kd.int .u8).C w A m.f1.length m.f1) (hc : m.f1.length ≤ c) (hl : data.length ≤ 10000) (hm : m.f1.length ≤ 140737488351232) :
    Calls Try.prog 75 #[.pointer (some ⟨g, 0, none⟩), .agg #[.int .i64 m.f0, .slice A m.f1.length c, .int .i64 m.f2]] w (DkPost t rest base g w (.int .i64 (dskStep data s m).1) (dskStep data s m).2.2 (dskStep data s m).2.1) := by
  obtain ⟨k, b, n⟩ := m
  simp only at hC hc hm ⊢
  have HD := Aside0.mk hd
  have HC := Aside0.mk hC
  have h0 := hd.cells.1
  have h1 := hd.cells.2.1
  have hDs := hd.2.2.2
  have hg : Aside0 (g < w.heap.size) := ⟨blk_lt hd.1⟩
  have HM0 := fun o => Aside0.mk (ModT.alloc [t, 5] base w o)
  obtain ⟨A0, c0, rfl⟩ := Kd.R_slice hd.2.2.1
  clear hd hC
  have HD2 := fun o => Aside0.mk (HD.out.box o)
  have HC2 := fun o => Aside0.mk (Kd.C_alloc HC.out o)
  by_cases k1 : k = 1
  · subst k1
    have hr : Aside0 (dskStep data s ⟨1, b, n⟩ = (wrCode data b, wrData data b, s)) := ⟨by unfold dskStep wrCode wrData; rw [if_pos rfl]; split <;> rfl⟩
    go_enter Try.func75, Try.ntmps75
    go_wp2_with (go_at_call 87; refine (disk_Write t rest base g _ s data b A c _ _ (HD2 _).out ht (HC2 _).out hc rfl (by omega)).mono ?_; rintro e w3 ⟨v', rfl, hd, hm⟩; have HD3 := Aside0.mk hd; have HM3 := Aside0.mk hm; clear hd hm)
    go_ret
    rw [hr.out]
    exact ⟨v', rfl, HD3.out, (HM0 _).out.trans HM3.out⟩
  by_cases k2 : k = 2
  · subst k2
    have hr : Aside0 (dskStep data s ⟨2, b, n⟩ = (0, data, data.length)) := ⟨by unfold dskStep; rw [if_neg k1, if_pos rfl]⟩
    go_enter Try.func75, Try.ntmps75
    go_wp2_with (go_at_call 88; refine (disk_Sync t rest base g _ s data _ (HD2 _).out ht).mono ?_; rintro e w3 ⟨v', rfl, hd, hm⟩; have HD3 := Aside0.mk hd; have HM3 := Aside0.mk hm; clear hd hm)
    go_ret
    rw [hr.out]
    exact ⟨v', rfl, HD3.out, (HM0 _).out.trans HM3.out⟩
  by_cases k3 : k = 3
  · subst k3
    have hgl : g < w.heap.size := hg.out
    have hgn : ¬ g = w.heap.size := by omega
    by_cases n0 : n < 0
    · have hr : Aside0 (dskStep data s ⟨3, b, n⟩ = (2, data, s)) := ⟨by unfold dskStep; rw [if_neg k1, if_neg k2, if_pos rfl, if_pos n0]⟩
      go_enter Try.func75, Try.ntmps75
      go_wp2
      go_quiet (fail)
      go_wp2
      go_ret
      rw [hr.out]
      exact ⟨_, rfl, (HD2 _).out.drewN _, (HM0 _).out.trans (ModT.drewN _ _ _ _)⟩
    by_cases n1 : (data.length : Int) < n
    · have hr : Aside0 (dskStep data s ⟨3, b, n⟩ = (2, data, s)) := ⟨by unfold dskStep; rw [if_neg k1, if_neg k2, if_pos rfl, if_neg n0, if_pos n1]⟩
      go_enter Try.func75, Try.ntmps75
      go_wp2
      go_quiet (fail)
      go_wp2
      go_ret
      rw [hr.out]
      exact ⟨_, rfl, (HD2 _).out.drewN _, (HM0 _).out.trans (ModT.drewN _ _ _ _)⟩
    obtain ⟨j, rfl⟩ : ∃ j : Nat, n = j := ⟨n.toNat, by omega⟩
    have hr : Aside0 (dskStep data s ⟨3, b, (j : Int)⟩ = (0, data.take j, j)) := ⟨by unfold dskStep; rw [if_neg k1, if_neg k2, if_pos rfl, if_neg n0, if_neg n1, Int.toNat_natCast]⟩
    have hj : j ≤ data.length := by omega
    go_enter Try.func75, Try.ntmps75
    go_wp2
    go_quiet (fail)
    go_wp2_with (go_at_call 89; refine (disk_Trim t rest base g _ s data j _ ((HD2 _).out.drewN _) ht hj).mono ?_; rintro e w3 ⟨v', rfl, hd, hm⟩; have HD3 := Aside0.mk hd; have HM3 := Aside0.mk hm; clear hd hm)
    go_ret
    rw [hr.out]
    exact ⟨v', rfl, HD3.out, ((HM0 _).out.trans (ModT.drewN _ _ _ _)).trans HM3.out⟩
  by_cases k4 : k = 4
  · subst k4
    by_cases n0 : n < 0
    · have hr : Aside0 (dskStep data s ⟨4, b, n⟩ = (2, data, s)) := ⟨by unfold dskStep; rw [if_neg k1, if_neg k2, if_neg k3, if_pos rfl, if_pos n0]⟩
      go_enter Try.func75, Try.ntmps75
      go_wp2
      go_ret
      rw [hr.out]
      exact ⟨_, rfl, (HD2 _).out, (HM0 _).out⟩
    obtain ⟨j, rfl⟩ : ∃ j : Nat, n = j := ⟨n.toNat, by omega⟩
    have hr : Aside0 (dskStep data s ⟨4, b, (j : Int)⟩ = (0, data.take (fallN s j data.length), fallN s j data.length)) := ⟨by unfold dskStep; rw [if_neg k1, if_neg k2, if_neg k3, if_pos rfl, if_neg n0, Int.toNat_natCast]⟩
    go_enter Try.func75, Try.ntmps75
    go_wp2_with (go_at_call 90; refine (disk_Fall t rest base g _ s data j _ (HD2 _).out ht (by omega)).mono ?_; rintro e w3 ⟨v', rfl, hd, hm⟩; have HD3 := Aside0.mk hd; have HM3 := Aside0.mk hm; clear hd hm)
    go_ret
    rw [hr.out]
    exact ⟨v', rfl, HD3.out, (HM0 _).out.trans HM3.out⟩
  have hr : Aside0 (dskStep data s ⟨k, b, n⟩ = (3, data, s)) := ⟨by unfold dskStep; rw [if_neg k1, if_neg k2, if_neg k3, if_neg k4]⟩
  go_enter Try.func75, Try.ntmps75
  go_wp2
  go_ret
  rw [hr.out]
  exact ⟨_, rfl, (HD2 _).out, (HM0 _).out⟩
end Go.Proofs.Ytnjidfgjldkkcaa.Q
