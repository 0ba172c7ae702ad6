/- disk.Held answers as the reference does, for all moves; no condition. -/
import Derived.Test.YtnjidfgjldkkcaaQDr
import Derived.Test.YtnjidfgjldkkcaaQMw
namespace Go.Proofs.Ytnjidfgjldkkcaa.Pure
open Go.RowKit Go.Proofs.Ytnjidfgjldkkcaa.Q Go.Proofs.YtnjidfgjldkkcaaW.PrintWords
theorem dskStep_s (d : List Int) (s : Nat) (m : S72) (h : s ≤ d.length) : (dskStep d s m).2.2 ≤ (dskStep d s m).2.1.length := by
  unfold dskStep
  repeat' split
  all_goals first | exact h | (simp only [List.length_append, List.length_take, fallN]; omega)
theorem dskPlay_s : ∀ (l : List S72) (d : List Int) (s : Nat), s ≤ d.length → (dskPlay l d s).2.2 ≤ (dskPlay l d s).2.1.length
  | [], _, _, h => h
  | m :: t, d, s, h => dskPlay_s t _ _ (dskStep_s d s m h)
/-- What the reading of a list of moves gives. -/
def MovesOk (l : List S72) : Prop := l.length ≤ 9223372036854775807 ∧ l.length * Try.prog.bytesOf 72 ≤ 140737488351232 ∧ ∀ m ∈ l, (Lit.int .i64 m.f0).wf = true ∧ (m.f1.length ≤ 9223372036854775807 ∧ m.f1.length * Try.prog.bytesOf 5 ≤ 140737488351232 ∧ ∀ y ∈ m.f1, (Lit.int .u8 y).wf = true) ∧ (Lit.int .i64 m.f2).wf = true
theorem MovesOk.len {l : List S72} (h : MovesOk l) : ∀ m ∈ l, m.f1.length ≤ 140737488351232 := fun m hm => by
  have := (h.2.2 m hm).2.1.2.1
  rw [show Try.prog.bytesOf 5 = 1 from by kernel_rfl, Nat.mul_one] at this
  exact this
theorem MovesOk.bytes {l : List S72} (h : MovesOk l) : ∀ m ∈ l, ∀ y ∈ m.f1, (Lit.int .u8 y).wf = true := fun m hm => (h.2.2 m hm).2.1.2.2
set_option maxRecDepth 100000 in
set_option maxHeartbeats 8000000 in
theorem walkDiskHelds (W : World) (l : List S72) (A : Option Addr) (c : Nat) (hc : l.length ≤ c) (C : Kd.C k72 W A l.length l)
    (okM : MovesOk l) :
    Calls Try.prog 10 #[.slice A l.length c] W fun e w' => e = .returned (.bool true) ∧ Below W.heap.size W w' := by
  have ok := okM.len
  obtain ⟨h1, h2, h3, hh⟩ : ∃ x y z, heldF l = (x, y, z) := ⟨_, _, _, rfl⟩
  have H1 := Aside0.mk (disk_Held.calls A c l h1 h2 h3 W C hc (by unfold disk_Held.f; rw [if_pos (List.all_eq_true.2 fun m hm => by simpa using ok m hm), hh]))
  have H2 : Aside0 (∀ w, Below W.heap.size W w → Calls Try.prog 34 #[.slice A l.length c] w (Played w (playedF l))) := ⟨fun w hw => ref_DiskPlayed A c l w (Kd.C_below C hw) hc ok⟩
  obtain ⟨p1, p2, p3, p4, hp⟩ : ∃ x y z u, playedF l = (x, y, z, u) := ⟨_, _, _, _, rfl⟩
  rw [hp] at H2
  have hf : h1 = (p2.length : Int) + (p3.length : Int) ∧ h2 = (p2.length : Int) ∧ h3 = p4 ∧ p2.length + p3.length ≤ 1200 := by
    unfold heldF at hh
    unfold playedF at hp
    by_cases hl : 100 < l.length
    · rw [if_pos hl] at hh hp
      simp only [Prod.mk.injEq] at hh hp
      obtain ⟨rfl, rfl, rfl⟩ := hh
      obtain ⟨rfl, rfl, rfl, rfl⟩ := hp
      simp
    · rw [if_neg hl] at hh hp
      simp only [Prod.mk.injEq] at hh hp
      have hs := dskPlay_s l [] 0 (Nat.le_refl _)
      have hd := (dskPlay_len l [] 0 (by simp)).1
      obtain ⟨rfl, rfl, rfl⟩ := hh
      obtain ⟨rfl, rfl, rfl, rfl⟩ := hp
      rw [List.length_take, List.length_drop, Nat.min_eq_left hs]
      exact ⟨by omega, rfl, rfl, by omega⟩
  obtain ⟨f1, rfl, rfl, hb⟩ := hf
  clear hh hp C hc ok okM
  go_enter Try.func10, Try.ntmps10
  go_wp2_with (first | (go_at_call 33; refine H1.out.mono ?_; rintro e w1 ⟨rfl, hb1⟩; have HB1 := Aside0.mk hb1; clear hb1) | (go_at_call 34; refine (H2.out _ HB1.out).mono ?_; rintro e w2 ⟨v1, v2, v3, rfl, ho1, ho2, ho3, hb2⟩; obtain ⟨A2, c2, rfl⟩ := Kd.R_slice ho2; obtain ⟨A3, c3, rfl⟩ := Kd.R_slice ho3; have HB2 := Aside0.mk (below_step HB1.out hb2); clear ho1 ho2 ho3 hb2))
  go_ret
  refine ⟨?_, HB2.out⟩
  simp
end Go.Proofs.Ytnjidfgjldkkcaa.Pure
