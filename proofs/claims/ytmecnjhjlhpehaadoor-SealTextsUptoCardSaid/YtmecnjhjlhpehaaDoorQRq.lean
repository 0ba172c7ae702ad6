/- The reference's quoted text, walked by hand. -/
import Derived.Test.YtmecnjhjlhpehaaDoorQQu
namespace Go.Proofs.YtmecnjhjlhpehaaDoor.Q
open Go.RowKit Go.Proofs.YtmecnjhjlhpehaaDoor.Plain Go.Proofs.YtmecnjhjlhpehaaDoorW.PrintWords Go.Proofs.YtmecnjhjlhpehaaDoorW.PrintLast Go.Proofs.YtmecnjhjlhpehaaDoorW.PrintMore
theorem conv_one (w : World) (c : Nat) (h : c < 256) : (convert 42 9 (.slice (some ⟨w.heap.size, 0, none⟩) 1 1)).run Tryd.prog (w.alloc (.cells #[.int .u8 (c : Int)] 5)) = .ok (.string ⟨#[UInt8.ofNat c]⟩) (w.alloc (.cells #[.int .u8 (c : Int)] 5)) :=
  run_convert_bytes_back (l := [UInt8.ofNat c]) _ 42 9 5 _ _ Tryd.underlying42 Tryd.underlying5 Tryd.underlying9 (fun j hj => by
    have : j = 0 := by simp at hj; omega
    subst this
    have e1 : (UInt8.ofNat c).toNat = c := UInt8.toNat_ofNat_of_lt' h
    simp [World.cell?, Addr.add, World.alloc, -World.alloc_eq]
    omega)
theorem conv_two (w : World) (c : Nat) (h : c < 256) : (convert 42 9 (.slice (some ⟨w.heap.size, 0, none⟩) 2 2)).run Tryd.prog (w.alloc (.cells #[.int .u8 92, .int .u8 (c : Int)] 5)) = .ok (.string ⟨#[92, UInt8.ofNat c]⟩) (w.alloc (.cells #[.int .u8 92, .int .u8 (c : Int)] 5)) :=
  run_convert_bytes_back (l := [92, UInt8.ofNat c]) _ 42 9 5 _ _ Tryd.underlying42 Tryd.underlying5 Tryd.underlying9 (fun j hj => by
    have : j = 0 ∨ j = 1 := by simp at hj; omega
    have e1 : (UInt8.ofNat c).toNat = c := UInt8.toNat_ofNat_of_lt' h
    rcases this with rfl | rfl
    · simp [World.cell?, Addr.add, World.alloc, -World.alloc_eq]
    · simp [World.cell?, Addr.add, World.alloc, -World.alloc_eq]
      omega)
def accF (s : ByteArray) (i : Nat) : ByteArray := ⟨(34 :: quoteL (s.data.toList.take i)).toArray⟩
theorem acc_list (s : ByteArray) (i : Nat) : (accF s i).data.toList = 34 :: quoteL (s.data.toList.take i) := rfl
theorem acc_next {s : ByteArray} {i c : Nat} (h : i < s.size) (hc : (s[i]).toNat = c) {x : ByteArray} (hx : x.data.toList = quoteB c) : accF s i ++ x = accF s (i + 1) := by
  apply ByteArray.ext
  apply Array.toList_inj.1
  rw [cat_list, acc_list, acc_list, hx]
  have hl : i < s.data.toList.length := h
  have e : (s.data.toList[i]).toNat = c := hc
  rw [quoteL_take hl, e]
  rfl
theorem acc_len (s : ByteArray) (hs : s.size ≤ 1000000000) (i : Nat) : (accF s i).size ≤ 6000000001 := by
  have h := cells_len s hs i
  rw [Lib.byteCells_length] at h
  rw [size_list, acc_list]
  exact h
set_option maxRecDepth 100000 in
set_option maxHeartbeats 8000000 in
theorem refQuoted_walk (s : ByteArray) (hs : s.size ≤ 1000000000) (w : World) : Calls Tryd.prog 25 #[.string s] w fun e w' => e = .returned (.string (quoteF s)) ∧ Below w.heap.size w w' := by
  go_enter Tryd.func25, Tryd.ntmps25
  go_wp2
  go_loopw [3, 4] (fun v3 v4 wr => ∃ i : Nat, v3 = .string (accF s i) ∧ v4 = .int .i64 i ∧ Aside0 (i ≤ s.size) ∧ Aside0 (Below w.heap.size w wr)) (fun _ v4 _ => s.size - (intOf v4).toNat)
  case atStart => exact ⟨0, rfl, rfl, ⟨Nat.zero_le _⟩, ⟨Below.refl _ _⟩⟩
  case round =>
    obtain ⟨i, rfl, rfl, hi, HB⟩ := hrel
    have hil := hi.out
    have hlen := acc_len s hs i
    by_cases hlt : i < s.size
    · have hi1 : IntKind.i64.wrap ((i : Int) + 1) = (i : Int) + 1 := by unfold IntKind.wrap; simp [IntKind.signed, IntKind.bits]; omega
      obtain ⟨c, hc⟩ : ∃ c, (s[i]).toNat = c := ⟨_, rfl⟩
      have hc256 : c < 256 := hc ▸ (s[i]).toNat_lt
      have hcc := Aside0.mk hc
      obtain ⟨x, hx⟩ : ∃ x, x = accF s i := ⟨_, rfl⟩
      have hxA := Aside0.mk hx
      rw [← hx] at hlen ⊢
      clear hx
      by_cases hc34 : c = 34
      · subst hc34
        have hcv : (convert 42 9 (.slice (some ⟨wr.heap.size, 0, none⟩) 2 2)).run Tryd.prog (wr.alloc (.cells #[.int .u8 92, .int .u8 34] 5)) = .ok (.string ⟨#[92, UInt8.ofNat 34]⟩) (wr.alloc (.cells #[.int .u8 92, .int .u8 34] 5)) := conv_two wr 34 (by omega)
        go_wp2
        go_roundw
        case rel => exact ⟨i + 1, by rw [hxA.out, ← acc_next (x := ⟨#[92, 34]⟩) hlt hcc.out (by rfl)], by simp, ⟨hlt⟩, ⟨below_alloc HB.out _⟩⟩
        case measure => simp [intOf]; omega
      by_cases hc92 : c = 92
      · subst hc92
        have hcv : (convert 42 9 (.slice (some ⟨wr.heap.size, 0, none⟩) 2 2)).run Tryd.prog (wr.alloc (.cells #[.int .u8 92, .int .u8 92] 5)) = .ok (.string ⟨#[92, UInt8.ofNat 92]⟩) (wr.alloc (.cells #[.int .u8 92, .int .u8 92] 5)) := conv_two wr 92 (by omega)
        go_wp2
        go_roundw
        case rel => exact ⟨i + 1, by rw [hxA.out, ← acc_next (x := ⟨#[92, 92]⟩) hlt hcc.out (by rfl)], by simp, ⟨hlt⟩, ⟨below_alloc HB.out _⟩⟩
        case measure => simp [intOf]; omega
      by_cases hc8 : c = 8
      · subst hc8
        go_wp2
        go_roundw
        case rel => exact ⟨i + 1, by rw [hxA.out, ← acc_next (x := ⟨#[92, 98]⟩) hlt hcc.out (by rfl)], by simp, ⟨hlt⟩, ⟨HB.out⟩⟩
        case measure => simp [intOf]; omega
      by_cases hc9 : c = 9
      · subst hc9
        go_wp2
        go_roundw
        case rel => exact ⟨i + 1, by rw [hxA.out, ← acc_next (x := ⟨#[92, 116]⟩) hlt hcc.out (by rfl)], by simp, ⟨hlt⟩, ⟨HB.out⟩⟩
        case measure => simp [intOf]; omega
      by_cases hc10 : c = 10
      · subst hc10
        go_wp2
        go_roundw
        case rel => exact ⟨i + 1, by rw [hxA.out, ← acc_next (x := ⟨#[92, 110]⟩) hlt hcc.out (by rfl)], by simp, ⟨hlt⟩, ⟨HB.out⟩⟩
        case measure => simp [intOf]; omega
      by_cases hc12 : c = 12
      · subst hc12
        go_wp2
        go_roundw
        case rel => exact ⟨i + 1, by rw [hxA.out, ← acc_next (x := ⟨#[92, 102]⟩) hlt hcc.out (by rfl)], by simp, ⟨hlt⟩, ⟨HB.out⟩⟩
        case measure => simp [intOf]; omega
      by_cases hc13 : c = 13
      · subst hc13
        go_wp2
        go_roundw
        case rel => exact ⟨i + 1, by rw [hxA.out, ← acc_next (x := ⟨#[92, 114]⟩) hlt hcc.out (by rfl)], by simp, ⟨hlt⟩, ⟨HB.out⟩⟩
        case measure => simp [intOf]; omega
      by_cases hc0 : c = 0
      · subst hc0
        have hx0 : Aside0 (((⟨#[92, 117, 48, 48]⟩ : ByteArray) ++ ((⟨#[48, 49, 50, 51, 52, 53, 54, 55, 56, 57, 97, 98, 99, 100, 101, 102]⟩ : ByteArray).extract 0 16).extract 0 1 ++ ((⟨#[48, 49, 50, 51, 52, 53, 54, 55, 56, 57, 97, 98, 99, 100, 101, 102]⟩ : ByteArray).extract 0 16).extract 0 1).data.toList = quoteB 0) := ⟨by decide +kernel⟩
        go_wp2
        repeat (go_quiet (fail); try go_wp2)
        go_roundw
        case rel => exact ⟨i + 1, by rw [hxA.out, ← acc_next (x := (⟨#[92, 117, 48, 48]⟩ : ByteArray) ++ ((⟨#[48, 49, 50, 51, 52, 53, 54, 55, 56, 57, 97, 98, 99, 100, 101, 102]⟩ : ByteArray).extract 0 16).extract 0 1 ++ ((⟨#[48, 49, 50, 51, 52, 53, 54, 55, 56, 57, 97, 98, 99, 100, 101, 102]⟩ : ByteArray).extract 0 16).extract 0 1) hlt hcc.out (hx0.out)], by simp, ⟨hlt⟩, ⟨pw_below_drewN HB.out _⟩⟩
        case measure => simp [intOf]; omega
      by_cases hc1 : c = 1
      · subst hc1
        have hx0 : Aside0 (((⟨#[92, 117, 48, 48]⟩ : ByteArray) ++ ((⟨#[48, 49, 50, 51, 52, 53, 54, 55, 56, 57, 97, 98, 99, 100, 101, 102]⟩ : ByteArray).extract 0 16).extract 0 1 ++ ((⟨#[48, 49, 50, 51, 52, 53, 54, 55, 56, 57, 97, 98, 99, 100, 101, 102]⟩ : ByteArray).extract 1 16).extract 0 1).data.toList = quoteB 1) := ⟨by decide +kernel⟩
        go_wp2
        repeat (go_quiet (fail); try go_wp2)
        go_roundw
        case rel => exact ⟨i + 1, by rw [hxA.out, ← acc_next (x := (⟨#[92, 117, 48, 48]⟩ : ByteArray) ++ ((⟨#[48, 49, 50, 51, 52, 53, 54, 55, 56, 57, 97, 98, 99, 100, 101, 102]⟩ : ByteArray).extract 0 16).extract 0 1 ++ ((⟨#[48, 49, 50, 51, 52, 53, 54, 55, 56, 57, 97, 98, 99, 100, 101, 102]⟩ : ByteArray).extract 1 16).extract 0 1) hlt hcc.out (hx0.out)], by simp, ⟨hlt⟩, ⟨pw_below_drewN HB.out _⟩⟩
        case measure => simp [intOf]; omega
      by_cases hc2 : c = 2
      · subst hc2
        have hx0 : Aside0 (((⟨#[92, 117, 48, 48]⟩ : ByteArray) ++ ((⟨#[48, 49, 50, 51, 52, 53, 54, 55, 56, 57, 97, 98, 99, 100, 101, 102]⟩ : ByteArray).extract 0 16).extract 0 1 ++ ((⟨#[48, 49, 50, 51, 52, 53, 54, 55, 56, 57, 97, 98, 99, 100, 101, 102]⟩ : ByteArray).extract 2 16).extract 0 1).data.toList = quoteB 2) := ⟨by decide +kernel⟩
        go_wp2
        repeat (go_quiet (fail); try go_wp2)
        go_roundw
        case rel => exact ⟨i + 1, by rw [hxA.out, ← acc_next (x := (⟨#[92, 117, 48, 48]⟩ : ByteArray) ++ ((⟨#[48, 49, 50, 51, 52, 53, 54, 55, 56, 57, 97, 98, 99, 100, 101, 102]⟩ : ByteArray).extract 0 16).extract 0 1 ++ ((⟨#[48, 49, 50, 51, 52, 53, 54, 55, 56, 57, 97, 98, 99, 100, 101, 102]⟩ : ByteArray).extract 2 16).extract 0 1) hlt hcc.out (hx0.out)], by simp, ⟨hlt⟩, ⟨pw_below_drewN HB.out _⟩⟩
        case measure => simp [intOf]; omega
      by_cases hc3 : c = 3
      · subst hc3
        have hx0 : Aside0 (((⟨#[92, 117, 48, 48]⟩ : ByteArray) ++ ((⟨#[48, 49, 50, 51, 52, 53, 54, 55, 56, 57, 97, 98, 99, 100, 101, 102]⟩ : ByteArray).extract 0 16).extract 0 1 ++ ((⟨#[48, 49, 50, 51, 52, 53, 54, 55, 56, 57, 97, 98, 99, 100, 101, 102]⟩ : ByteArray).extract 3 16).extract 0 1).data.toList = quoteB 3) := ⟨by decide +kernel⟩
        go_wp2
        repeat (go_quiet (fail); try go_wp2)
        go_roundw
        case rel => exact ⟨i + 1, by rw [hxA.out, ← acc_next (x := (⟨#[92, 117, 48, 48]⟩ : ByteArray) ++ ((⟨#[48, 49, 50, 51, 52, 53, 54, 55, 56, 57, 97, 98, 99, 100, 101, 102]⟩ : ByteArray).extract 0 16).extract 0 1 ++ ((⟨#[48, 49, 50, 51, 52, 53, 54, 55, 56, 57, 97, 98, 99, 100, 101, 102]⟩ : ByteArray).extract 3 16).extract 0 1) hlt hcc.out (hx0.out)], by simp, ⟨hlt⟩, ⟨pw_below_drewN HB.out _⟩⟩
        case measure => simp [intOf]; omega
      by_cases hc4 : c = 4
      · subst hc4
        have hx0 : Aside0 (((⟨#[92, 117, 48, 48]⟩ : ByteArray) ++ ((⟨#[48, 49, 50, 51, 52, 53, 54, 55, 56, 57, 97, 98, 99, 100, 101, 102]⟩ : ByteArray).extract 0 16).extract 0 1 ++ ((⟨#[48, 49, 50, 51, 52, 53, 54, 55, 56, 57, 97, 98, 99, 100, 101, 102]⟩ : ByteArray).extract 4 16).extract 0 1).data.toList = quoteB 4) := ⟨by decide +kernel⟩
        go_wp2
        repeat (go_quiet (fail); try go_wp2)
        go_roundw
        case rel => exact ⟨i + 1, by rw [hxA.out, ← acc_next (x := (⟨#[92, 117, 48, 48]⟩ : ByteArray) ++ ((⟨#[48, 49, 50, 51, 52, 53, 54, 55, 56, 57, 97, 98, 99, 100, 101, 102]⟩ : ByteArray).extract 0 16).extract 0 1 ++ ((⟨#[48, 49, 50, 51, 52, 53, 54, 55, 56, 57, 97, 98, 99, 100, 101, 102]⟩ : ByteArray).extract 4 16).extract 0 1) hlt hcc.out (hx0.out)], by simp, ⟨hlt⟩, ⟨pw_below_drewN HB.out _⟩⟩
        case measure => simp [intOf]; omega
      by_cases hc5 : c = 5
      · subst hc5
        have hx0 : Aside0 (((⟨#[92, 117, 48, 48]⟩ : ByteArray) ++ ((⟨#[48, 49, 50, 51, 52, 53, 54, 55, 56, 57, 97, 98, 99, 100, 101, 102]⟩ : ByteArray).extract 0 16).extract 0 1 ++ ((⟨#[48, 49, 50, 51, 52, 53, 54, 55, 56, 57, 97, 98, 99, 100, 101, 102]⟩ : ByteArray).extract 5 16).extract 0 1).data.toList = quoteB 5) := ⟨by decide +kernel⟩
        go_wp2
        repeat (go_quiet (fail); try go_wp2)
        go_roundw
        case rel => exact ⟨i + 1, by rw [hxA.out, ← acc_next (x := (⟨#[92, 117, 48, 48]⟩ : ByteArray) ++ ((⟨#[48, 49, 50, 51, 52, 53, 54, 55, 56, 57, 97, 98, 99, 100, 101, 102]⟩ : ByteArray).extract 0 16).extract 0 1 ++ ((⟨#[48, 49, 50, 51, 52, 53, 54, 55, 56, 57, 97, 98, 99, 100, 101, 102]⟩ : ByteArray).extract 5 16).extract 0 1) hlt hcc.out (hx0.out)], by simp, ⟨hlt⟩, ⟨pw_below_drewN HB.out _⟩⟩
        case measure => simp [intOf]; omega
      by_cases hc6 : c = 6
      · subst hc6
        have hx0 : Aside0 (((⟨#[92, 117, 48, 48]⟩ : ByteArray) ++ ((⟨#[48, 49, 50, 51, 52, 53, 54, 55, 56, 57, 97, 98, 99, 100, 101, 102]⟩ : ByteArray).extract 0 16).extract 0 1 ++ ((⟨#[48, 49, 50, 51, 52, 53, 54, 55, 56, 57, 97, 98, 99, 100, 101, 102]⟩ : ByteArray).extract 6 16).extract 0 1).data.toList = quoteB 6) := ⟨by decide +kernel⟩
        go_wp2
        repeat (go_quiet (fail); try go_wp2)
        go_roundw
        case rel => exact ⟨i + 1, by rw [hxA.out, ← acc_next (x := (⟨#[92, 117, 48, 48]⟩ : ByteArray) ++ ((⟨#[48, 49, 50, 51, 52, 53, 54, 55, 56, 57, 97, 98, 99, 100, 101, 102]⟩ : ByteArray).extract 0 16).extract 0 1 ++ ((⟨#[48, 49, 50, 51, 52, 53, 54, 55, 56, 57, 97, 98, 99, 100, 101, 102]⟩ : ByteArray).extract 6 16).extract 0 1) hlt hcc.out (hx0.out)], by simp, ⟨hlt⟩, ⟨pw_below_drewN HB.out _⟩⟩
        case measure => simp [intOf]; omega
      by_cases hc7 : c = 7
      · subst hc7
        have hx0 : Aside0 (((⟨#[92, 117, 48, 48]⟩ : ByteArray) ++ ((⟨#[48, 49, 50, 51, 52, 53, 54, 55, 56, 57, 97, 98, 99, 100, 101, 102]⟩ : ByteArray).extract 0 16).extract 0 1 ++ ((⟨#[48, 49, 50, 51, 52, 53, 54, 55, 56, 57, 97, 98, 99, 100, 101, 102]⟩ : ByteArray).extract 7 16).extract 0 1).data.toList = quoteB 7) := ⟨by decide +kernel⟩
        go_wp2
        repeat (go_quiet (fail); try go_wp2)
        go_roundw
        case rel => exact ⟨i + 1, by rw [hxA.out, ← acc_next (x := (⟨#[92, 117, 48, 48]⟩ : ByteArray) ++ ((⟨#[48, 49, 50, 51, 52, 53, 54, 55, 56, 57, 97, 98, 99, 100, 101, 102]⟩ : ByteArray).extract 0 16).extract 0 1 ++ ((⟨#[48, 49, 50, 51, 52, 53, 54, 55, 56, 57, 97, 98, 99, 100, 101, 102]⟩ : ByteArray).extract 7 16).extract 0 1) hlt hcc.out (hx0.out)], by simp, ⟨hlt⟩, ⟨pw_below_drewN HB.out _⟩⟩
        case measure => simp [intOf]; omega
      by_cases hc11 : c = 11
      · subst hc11
        have hx0 : Aside0 (((⟨#[92, 117, 48, 48]⟩ : ByteArray) ++ ((⟨#[48, 49, 50, 51, 52, 53, 54, 55, 56, 57, 97, 98, 99, 100, 101, 102]⟩ : ByteArray).extract 0 16).extract 0 1 ++ ((⟨#[48, 49, 50, 51, 52, 53, 54, 55, 56, 57, 97, 98, 99, 100, 101, 102]⟩ : ByteArray).extract 11 16).extract 0 1).data.toList = quoteB 11) := ⟨by decide +kernel⟩
        go_wp2
        repeat (go_quiet (fail); try go_wp2)
        go_roundw
        case rel => exact ⟨i + 1, by rw [hxA.out, ← acc_next (x := (⟨#[92, 117, 48, 48]⟩ : ByteArray) ++ ((⟨#[48, 49, 50, 51, 52, 53, 54, 55, 56, 57, 97, 98, 99, 100, 101, 102]⟩ : ByteArray).extract 0 16).extract 0 1 ++ ((⟨#[48, 49, 50, 51, 52, 53, 54, 55, 56, 57, 97, 98, 99, 100, 101, 102]⟩ : ByteArray).extract 11 16).extract 0 1) hlt hcc.out (hx0.out)], by simp, ⟨hlt⟩, ⟨pw_below_drewN HB.out _⟩⟩
        case measure => simp [intOf]; omega
      by_cases hc14 : c = 14
      · subst hc14
        have hx0 : Aside0 (((⟨#[92, 117, 48, 48]⟩ : ByteArray) ++ ((⟨#[48, 49, 50, 51, 52, 53, 54, 55, 56, 57, 97, 98, 99, 100, 101, 102]⟩ : ByteArray).extract 0 16).extract 0 1 ++ ((⟨#[48, 49, 50, 51, 52, 53, 54, 55, 56, 57, 97, 98, 99, 100, 101, 102]⟩ : ByteArray).extract 14 16).extract 0 1).data.toList = quoteB 14) := ⟨by decide +kernel⟩
        go_wp2
        repeat (go_quiet (fail); try go_wp2)
        go_roundw
        case rel => exact ⟨i + 1, by rw [hxA.out, ← acc_next (x := (⟨#[92, 117, 48, 48]⟩ : ByteArray) ++ ((⟨#[48, 49, 50, 51, 52, 53, 54, 55, 56, 57, 97, 98, 99, 100, 101, 102]⟩ : ByteArray).extract 0 16).extract 0 1 ++ ((⟨#[48, 49, 50, 51, 52, 53, 54, 55, 56, 57, 97, 98, 99, 100, 101, 102]⟩ : ByteArray).extract 14 16).extract 0 1) hlt hcc.out (hx0.out)], by simp, ⟨hlt⟩, ⟨pw_below_drewN HB.out _⟩⟩
        case measure => simp [intOf]; omega
      by_cases hc15 : c = 15
      · subst hc15
        have hx0 : Aside0 (((⟨#[92, 117, 48, 48]⟩ : ByteArray) ++ ((⟨#[48, 49, 50, 51, 52, 53, 54, 55, 56, 57, 97, 98, 99, 100, 101, 102]⟩ : ByteArray).extract 0 16).extract 0 1 ++ ((⟨#[48, 49, 50, 51, 52, 53, 54, 55, 56, 57, 97, 98, 99, 100, 101, 102]⟩ : ByteArray).extract 15 16).extract 0 1).data.toList = quoteB 15) := ⟨by decide +kernel⟩
        go_wp2
        repeat (go_quiet (fail); try go_wp2)
        go_roundw
        case rel => exact ⟨i + 1, by rw [hxA.out, ← acc_next (x := (⟨#[92, 117, 48, 48]⟩ : ByteArray) ++ ((⟨#[48, 49, 50, 51, 52, 53, 54, 55, 56, 57, 97, 98, 99, 100, 101, 102]⟩ : ByteArray).extract 0 16).extract 0 1 ++ ((⟨#[48, 49, 50, 51, 52, 53, 54, 55, 56, 57, 97, 98, 99, 100, 101, 102]⟩ : ByteArray).extract 15 16).extract 0 1) hlt hcc.out (hx0.out)], by simp, ⟨hlt⟩, ⟨pw_below_drewN HB.out _⟩⟩
        case measure => simp [intOf]; omega
      by_cases hc16 : c = 16
      · subst hc16
        have hx0 : Aside0 (((⟨#[92, 117, 48, 48]⟩ : ByteArray) ++ ((⟨#[48, 49, 50, 51, 52, 53, 54, 55, 56, 57, 97, 98, 99, 100, 101, 102]⟩ : ByteArray).extract 1 16).extract 0 1 ++ ((⟨#[48, 49, 50, 51, 52, 53, 54, 55, 56, 57, 97, 98, 99, 100, 101, 102]⟩ : ByteArray).extract 0 16).extract 0 1).data.toList = quoteB 16) := ⟨by decide +kernel⟩
        go_wp2
        repeat (go_quiet (fail); try go_wp2)
        go_roundw
        case rel => exact ⟨i + 1, by rw [hxA.out, ← acc_next (x := (⟨#[92, 117, 48, 48]⟩ : ByteArray) ++ ((⟨#[48, 49, 50, 51, 52, 53, 54, 55, 56, 57, 97, 98, 99, 100, 101, 102]⟩ : ByteArray).extract 1 16).extract 0 1 ++ ((⟨#[48, 49, 50, 51, 52, 53, 54, 55, 56, 57, 97, 98, 99, 100, 101, 102]⟩ : ByteArray).extract 0 16).extract 0 1) hlt hcc.out (hx0.out)], by simp, ⟨hlt⟩, ⟨pw_below_drewN HB.out _⟩⟩
        case measure => simp [intOf]; omega
      by_cases hc17 : c = 17
      · subst hc17
        have hx0 : Aside0 (((⟨#[92, 117, 48, 48]⟩ : ByteArray) ++ ((⟨#[48, 49, 50, 51, 52, 53, 54, 55, 56, 57, 97, 98, 99, 100, 101, 102]⟩ : ByteArray).extract 1 16).extract 0 1 ++ ((⟨#[48, 49, 50, 51, 52, 53, 54, 55, 56, 57, 97, 98, 99, 100, 101, 102]⟩ : ByteArray).extract 1 16).extract 0 1).data.toList = quoteB 17) := ⟨by decide +kernel⟩
        go_wp2
        repeat (go_quiet (fail); try go_wp2)
        go_roundw
        case rel => exact ⟨i + 1, by rw [hxA.out, ← acc_next (x := (⟨#[92, 117, 48, 48]⟩ : ByteArray) ++ ((⟨#[48, 49, 50, 51, 52, 53, 54, 55, 56, 57, 97, 98, 99, 100, 101, 102]⟩ : ByteArray).extract 1 16).extract 0 1 ++ ((⟨#[48, 49, 50, 51, 52, 53, 54, 55, 56, 57, 97, 98, 99, 100, 101, 102]⟩ : ByteArray).extract 1 16).extract 0 1) hlt hcc.out (hx0.out)], by simp, ⟨hlt⟩, ⟨pw_below_drewN HB.out _⟩⟩
        case measure => simp [intOf]; omega
      by_cases hc18 : c = 18
      · subst hc18
        have hx0 : Aside0 (((⟨#[92, 117, 48, 48]⟩ : ByteArray) ++ ((⟨#[48, 49, 50, 51, 52, 53, 54, 55, 56, 57, 97, 98, 99, 100, 101, 102]⟩ : ByteArray).extract 1 16).extract 0 1 ++ ((⟨#[48, 49, 50, 51, 52, 53, 54, 55, 56, 57, 97, 98, 99, 100, 101, 102]⟩ : ByteArray).extract 2 16).extract 0 1).data.toList = quoteB 18) := ⟨by decide +kernel⟩
        go_wp2
        repeat (go_quiet (fail); try go_wp2)
        go_roundw
        case rel => exact ⟨i + 1, by rw [hxA.out, ← acc_next (x := (⟨#[92, 117, 48, 48]⟩ : ByteArray) ++ ((⟨#[48, 49, 50, 51, 52, 53, 54, 55, 56, 57, 97, 98, 99, 100, 101, 102]⟩ : ByteArray).extract 1 16).extract 0 1 ++ ((⟨#[48, 49, 50, 51, 52, 53, 54, 55, 56, 57, 97, 98, 99, 100, 101, 102]⟩ : ByteArray).extract 2 16).extract 0 1) hlt hcc.out (hx0.out)], by simp, ⟨hlt⟩, ⟨pw_below_drewN HB.out _⟩⟩
        case measure => simp [intOf]; omega
      by_cases hc19 : c = 19
      · subst hc19
        have hx0 : Aside0 (((⟨#[92, 117, 48, 48]⟩ : ByteArray) ++ ((⟨#[48, 49, 50, 51, 52, 53, 54, 55, 56, 57, 97, 98, 99, 100, 101, 102]⟩ : ByteArray).extract 1 16).extract 0 1 ++ ((⟨#[48, 49, 50, 51, 52, 53, 54, 55, 56, 57, 97, 98, 99, 100, 101, 102]⟩ : ByteArray).extract 3 16).extract 0 1).data.toList = quoteB 19) := ⟨by decide +kernel⟩
        go_wp2
        repeat (go_quiet (fail); try go_wp2)
        go_roundw
        case rel => exact ⟨i + 1, by rw [hxA.out, ← acc_next (x := (⟨#[92, 117, 48, 48]⟩ : ByteArray) ++ ((⟨#[48, 49, 50, 51, 52, 53, 54, 55, 56, 57, 97, 98, 99, 100, 101, 102]⟩ : ByteArray).extract 1 16).extract 0 1 ++ ((⟨#[48, 49, 50, 51, 52, 53, 54, 55, 56, 57, 97, 98, 99, 100, 101, 102]⟩ : ByteArray).extract 3 16).extract 0 1) hlt hcc.out (hx0.out)], by simp, ⟨hlt⟩, ⟨pw_below_drewN HB.out _⟩⟩
        case measure => simp [intOf]; omega
      by_cases hc20 : c = 20
      · subst hc20
        have hx0 : Aside0 (((⟨#[92, 117, 48, 48]⟩ : ByteArray) ++ ((⟨#[48, 49, 50, 51, 52, 53, 54, 55, 56, 57, 97, 98, 99, 100, 101, 102]⟩ : ByteArray).extract 1 16).extract 0 1 ++ ((⟨#[48, 49, 50, 51, 52, 53, 54, 55, 56, 57, 97, 98, 99, 100, 101, 102]⟩ : ByteArray).extract 4 16).extract 0 1).data.toList = quoteB 20) := ⟨by decide +kernel⟩
        go_wp2
        repeat (go_quiet (fail); try go_wp2)
        go_roundw
        case rel => exact ⟨i + 1, by rw [hxA.out, ← acc_next (x := (⟨#[92, 117, 48, 48]⟩ : ByteArray) ++ ((⟨#[48, 49, 50, 51, 52, 53, 54, 55, 56, 57, 97, 98, 99, 100, 101, 102]⟩ : ByteArray).extract 1 16).extract 0 1 ++ ((⟨#[48, 49, 50, 51, 52, 53, 54, 55, 56, 57, 97, 98, 99, 100, 101, 102]⟩ : ByteArray).extract 4 16).extract 0 1) hlt hcc.out (hx0.out)], by simp, ⟨hlt⟩, ⟨pw_below_drewN HB.out _⟩⟩
        case measure => simp [intOf]; omega
      by_cases hc21 : c = 21
      · subst hc21
        have hx0 : Aside0 (((⟨#[92, 117, 48, 48]⟩ : ByteArray) ++ ((⟨#[48, 49, 50, 51, 52, 53, 54, 55, 56, 57, 97, 98, 99, 100, 101, 102]⟩ : ByteArray).extract 1 16).extract 0 1 ++ ((⟨#[48, 49, 50, 51, 52, 53, 54, 55, 56, 57, 97, 98, 99, 100, 101, 102]⟩ : ByteArray).extract 5 16).extract 0 1).data.toList = quoteB 21) := ⟨by decide +kernel⟩
        go_wp2
        repeat (go_quiet (fail); try go_wp2)
        go_roundw
        case rel => exact ⟨i + 1, by rw [hxA.out, ← acc_next (x := (⟨#[92, 117, 48, 48]⟩ : ByteArray) ++ ((⟨#[48, 49, 50, 51, 52, 53, 54, 55, 56, 57, 97, 98, 99, 100, 101, 102]⟩ : ByteArray).extract 1 16).extract 0 1 ++ ((⟨#[48, 49, 50, 51, 52, 53, 54, 55, 56, 57, 97, 98, 99, 100, 101, 102]⟩ : ByteArray).extract 5 16).extract 0 1) hlt hcc.out (hx0.out)], by simp, ⟨hlt⟩, ⟨pw_below_drewN HB.out _⟩⟩
        case measure => simp [intOf]; omega
      by_cases hc22 : c = 22
      · subst hc22
        have hx0 : Aside0 (((⟨#[92, 117, 48, 48]⟩ : ByteArray) ++ ((⟨#[48, 49, 50, 51, 52, 53, 54, 55, 56, 57, 97, 98, 99, 100, 101, 102]⟩ : ByteArray).extract 1 16).extract 0 1 ++ ((⟨#[48, 49, 50, 51, 52, 53, 54, 55, 56, 57, 97, 98, 99, 100, 101, 102]⟩ : ByteArray).extract 6 16).extract 0 1).data.toList = quoteB 22) := ⟨by decide +kernel⟩
        go_wp2
        repeat (go_quiet (fail); try go_wp2)
        go_roundw
        case rel => exact ⟨i + 1, by rw [hxA.out, ← acc_next (x := (⟨#[92, 117, 48, 48]⟩ : ByteArray) ++ ((⟨#[48, 49, 50, 51, 52, 53, 54, 55, 56, 57, 97, 98, 99, 100, 101, 102]⟩ : ByteArray).extract 1 16).extract 0 1 ++ ((⟨#[48, 49, 50, 51, 52, 53, 54, 55, 56, 57, 97, 98, 99, 100, 101, 102]⟩ : ByteArray).extract 6 16).extract 0 1) hlt hcc.out (hx0.out)], by simp, ⟨hlt⟩, ⟨pw_below_drewN HB.out _⟩⟩
        case measure => simp [intOf]; omega
      by_cases hc23 : c = 23
      · subst hc23
        have hx0 : Aside0 (((⟨#[92, 117, 48, 48]⟩ : ByteArray) ++ ((⟨#[48, 49, 50, 51, 52, 53, 54, 55, 56, 57, 97, 98, 99, 100, 101, 102]⟩ : ByteArray).extract 1 16).extract 0 1 ++ ((⟨#[48, 49, 50, 51, 52, 53, 54, 55, 56, 57, 97, 98, 99, 100, 101, 102]⟩ : ByteArray).extract 7 16).extract 0 1).data.toList = quoteB 23) := ⟨by decide +kernel⟩
        go_wp2
        repeat (go_quiet (fail); try go_wp2)
        go_roundw
        case rel => exact ⟨i + 1, by rw [hxA.out, ← acc_next (x := (⟨#[92, 117, 48, 48]⟩ : ByteArray) ++ ((⟨#[48, 49, 50, 51, 52, 53, 54, 55, 56, 57, 97, 98, 99, 100, 101, 102]⟩ : ByteArray).extract 1 16).extract 0 1 ++ ((⟨#[48, 49, 50, 51, 52, 53, 54, 55, 56, 57, 97, 98, 99, 100, 101, 102]⟩ : ByteArray).extract 7 16).extract 0 1) hlt hcc.out (hx0.out)], by simp, ⟨hlt⟩, ⟨pw_below_drewN HB.out _⟩⟩
        case measure => simp [intOf]; omega
      by_cases hc24 : c = 24
      · subst hc24
        have hx0 : Aside0 (((⟨#[92, 117, 48, 48]⟩ : ByteArray) ++ ((⟨#[48, 49, 50, 51, 52, 53, 54, 55, 56, 57, 97, 98, 99, 100, 101, 102]⟩ : ByteArray).extract 1 16).extract 0 1 ++ ((⟨#[48, 49, 50, 51, 52, 53, 54, 55, 56, 57, 97, 98, 99, 100, 101, 102]⟩ : ByteArray).extract 8 16).extract 0 1).data.toList = quoteB 24) := ⟨by decide +kernel⟩
        go_wp2
        repeat (go_quiet (fail); try go_wp2)
        go_roundw
        case rel => exact ⟨i + 1, by rw [hxA.out, ← acc_next (x := (⟨#[92, 117, 48, 48]⟩ : ByteArray) ++ ((⟨#[48, 49, 50, 51, 52, 53, 54, 55, 56, 57, 97, 98, 99, 100, 101, 102]⟩ : ByteArray).extract 1 16).extract 0 1 ++ ((⟨#[48, 49, 50, 51, 52, 53, 54, 55, 56, 57, 97, 98, 99, 100, 101, 102]⟩ : ByteArray).extract 8 16).extract 0 1) hlt hcc.out (hx0.out)], by simp, ⟨hlt⟩, ⟨pw_below_drewN HB.out _⟩⟩
        case measure => simp [intOf]; omega
      by_cases hc25 : c = 25
      · subst hc25
        have hx0 : Aside0 (((⟨#[92, 117, 48, 48]⟩ : ByteArray) ++ ((⟨#[48, 49, 50, 51, 52, 53, 54, 55, 56, 57, 97, 98, 99, 100, 101, 102]⟩ : ByteArray).extract 1 16).extract 0 1 ++ ((⟨#[48, 49, 50, 51, 52, 53, 54, 55, 56, 57, 97, 98, 99, 100, 101, 102]⟩ : ByteArray).extract 9 16).extract 0 1).data.toList = quoteB 25) := ⟨by decide +kernel⟩
        go_wp2
        repeat (go_quiet (fail); try go_wp2)
        go_roundw
        case rel => exact ⟨i + 1, by rw [hxA.out, ← acc_next (x := (⟨#[92, 117, 48, 48]⟩ : ByteArray) ++ ((⟨#[48, 49, 50, 51, 52, 53, 54, 55, 56, 57, 97, 98, 99, 100, 101, 102]⟩ : ByteArray).extract 1 16).extract 0 1 ++ ((⟨#[48, 49, 50, 51, 52, 53, 54, 55, 56, 57, 97, 98, 99, 100, 101, 102]⟩ : ByteArray).extract 9 16).extract 0 1) hlt hcc.out (hx0.out)], by simp, ⟨hlt⟩, ⟨pw_below_drewN HB.out _⟩⟩
        case measure => simp [intOf]; omega
      by_cases hc26 : c = 26
      · subst hc26
        have hx0 : Aside0 (((⟨#[92, 117, 48, 48]⟩ : ByteArray) ++ ((⟨#[48, 49, 50, 51, 52, 53, 54, 55, 56, 57, 97, 98, 99, 100, 101, 102]⟩ : ByteArray).extract 1 16).extract 0 1 ++ ((⟨#[48, 49, 50, 51, 52, 53, 54, 55, 56, 57, 97, 98, 99, 100, 101, 102]⟩ : ByteArray).extract 10 16).extract 0 1).data.toList = quoteB 26) := ⟨by decide +kernel⟩
        go_wp2
        repeat (go_quiet (fail); try go_wp2)
        go_roundw
        case rel => exact ⟨i + 1, by rw [hxA.out, ← acc_next (x := (⟨#[92, 117, 48, 48]⟩ : ByteArray) ++ ((⟨#[48, 49, 50, 51, 52, 53, 54, 55, 56, 57, 97, 98, 99, 100, 101, 102]⟩ : ByteArray).extract 1 16).extract 0 1 ++ ((⟨#[48, 49, 50, 51, 52, 53, 54, 55, 56, 57, 97, 98, 99, 100, 101, 102]⟩ : ByteArray).extract 10 16).extract 0 1) hlt hcc.out (hx0.out)], by simp, ⟨hlt⟩, ⟨pw_below_drewN HB.out _⟩⟩
        case measure => simp [intOf]; omega
      by_cases hc27 : c = 27
      · subst hc27
        have hx0 : Aside0 (((⟨#[92, 117, 48, 48]⟩ : ByteArray) ++ ((⟨#[48, 49, 50, 51, 52, 53, 54, 55, 56, 57, 97, 98, 99, 100, 101, 102]⟩ : ByteArray).extract 1 16).extract 0 1 ++ ((⟨#[48, 49, 50, 51, 52, 53, 54, 55, 56, 57, 97, 98, 99, 100, 101, 102]⟩ : ByteArray).extract 11 16).extract 0 1).data.toList = quoteB 27) := ⟨by decide +kernel⟩
        go_wp2
        repeat (go_quiet (fail); try go_wp2)
        go_roundw
        case rel => exact ⟨i + 1, by rw [hxA.out, ← acc_next (x := (⟨#[92, 117, 48, 48]⟩ : ByteArray) ++ ((⟨#[48, 49, 50, 51, 52, 53, 54, 55, 56, 57, 97, 98, 99, 100, 101, 102]⟩ : ByteArray).extract 1 16).extract 0 1 ++ ((⟨#[48, 49, 50, 51, 52, 53, 54, 55, 56, 57, 97, 98, 99, 100, 101, 102]⟩ : ByteArray).extract 11 16).extract 0 1) hlt hcc.out (hx0.out)], by simp, ⟨hlt⟩, ⟨pw_below_drewN HB.out _⟩⟩
        case measure => simp [intOf]; omega
      by_cases hc28 : c = 28
      · subst hc28
        have hx0 : Aside0 (((⟨#[92, 117, 48, 48]⟩ : ByteArray) ++ ((⟨#[48, 49, 50, 51, 52, 53, 54, 55, 56, 57, 97, 98, 99, 100, 101, 102]⟩ : ByteArray).extract 1 16).extract 0 1 ++ ((⟨#[48, 49, 50, 51, 52, 53, 54, 55, 56, 57, 97, 98, 99, 100, 101, 102]⟩ : ByteArray).extract 12 16).extract 0 1).data.toList = quoteB 28) := ⟨by decide +kernel⟩
        go_wp2
        repeat (go_quiet (fail); try go_wp2)
        go_roundw
        case rel => exact ⟨i + 1, by rw [hxA.out, ← acc_next (x := (⟨#[92, 117, 48, 48]⟩ : ByteArray) ++ ((⟨#[48, 49, 50, 51, 52, 53, 54, 55, 56, 57, 97, 98, 99, 100, 101, 102]⟩ : ByteArray).extract 1 16).extract 0 1 ++ ((⟨#[48, 49, 50, 51, 52, 53, 54, 55, 56, 57, 97, 98, 99, 100, 101, 102]⟩ : ByteArray).extract 12 16).extract 0 1) hlt hcc.out (hx0.out)], by simp, ⟨hlt⟩, ⟨pw_below_drewN HB.out _⟩⟩
        case measure => simp [intOf]; omega
      by_cases hc29 : c = 29
      · subst hc29
        have hx0 : Aside0 (((⟨#[92, 117, 48, 48]⟩ : ByteArray) ++ ((⟨#[48, 49, 50, 51, 52, 53, 54, 55, 56, 57, 97, 98, 99, 100, 101, 102]⟩ : ByteArray).extract 1 16).extract 0 1 ++ ((⟨#[48, 49, 50, 51, 52, 53, 54, 55, 56, 57, 97, 98, 99, 100, 101, 102]⟩ : ByteArray).extract 13 16).extract 0 1).data.toList = quoteB 29) := ⟨by decide +kernel⟩
        go_wp2
        repeat (go_quiet (fail); try go_wp2)
        go_roundw
        case rel => exact ⟨i + 1, by rw [hxA.out, ← acc_next (x := (⟨#[92, 117, 48, 48]⟩ : ByteArray) ++ ((⟨#[48, 49, 50, 51, 52, 53, 54, 55, 56, 57, 97, 98, 99, 100, 101, 102]⟩ : ByteArray).extract 1 16).extract 0 1 ++ ((⟨#[48, 49, 50, 51, 52, 53, 54, 55, 56, 57, 97, 98, 99, 100, 101, 102]⟩ : ByteArray).extract 13 16).extract 0 1) hlt hcc.out (hx0.out)], by simp, ⟨hlt⟩, ⟨pw_below_drewN HB.out _⟩⟩
        case measure => simp [intOf]; omega
      by_cases hc30 : c = 30
      · subst hc30
        have hx0 : Aside0 (((⟨#[92, 117, 48, 48]⟩ : ByteArray) ++ ((⟨#[48, 49, 50, 51, 52, 53, 54, 55, 56, 57, 97, 98, 99, 100, 101, 102]⟩ : ByteArray).extract 1 16).extract 0 1 ++ ((⟨#[48, 49, 50, 51, 52, 53, 54, 55, 56, 57, 97, 98, 99, 100, 101, 102]⟩ : ByteArray).extract 14 16).extract 0 1).data.toList = quoteB 30) := ⟨by decide +kernel⟩
        go_wp2
        repeat (go_quiet (fail); try go_wp2)
        go_roundw
        case rel => exact ⟨i + 1, by rw [hxA.out, ← acc_next (x := (⟨#[92, 117, 48, 48]⟩ : ByteArray) ++ ((⟨#[48, 49, 50, 51, 52, 53, 54, 55, 56, 57, 97, 98, 99, 100, 101, 102]⟩ : ByteArray).extract 1 16).extract 0 1 ++ ((⟨#[48, 49, 50, 51, 52, 53, 54, 55, 56, 57, 97, 98, 99, 100, 101, 102]⟩ : ByteArray).extract 14 16).extract 0 1) hlt hcc.out (hx0.out)], by simp, ⟨hlt⟩, ⟨pw_below_drewN HB.out _⟩⟩
        case measure => simp [intOf]; omega
      by_cases hc31 : c = 31
      · subst hc31
        have hx0 : Aside0 (((⟨#[92, 117, 48, 48]⟩ : ByteArray) ++ ((⟨#[48, 49, 50, 51, 52, 53, 54, 55, 56, 57, 97, 98, 99, 100, 101, 102]⟩ : ByteArray).extract 1 16).extract 0 1 ++ ((⟨#[48, 49, 50, 51, 52, 53, 54, 55, 56, 57, 97, 98, 99, 100, 101, 102]⟩ : ByteArray).extract 15 16).extract 0 1).data.toList = quoteB 31) := ⟨by decide +kernel⟩
        go_wp2
        repeat (go_quiet (fail); try go_wp2)
        go_roundw
        case rel => exact ⟨i + 1, by rw [hxA.out, ← acc_next (x := (⟨#[92, 117, 48, 48]⟩ : ByteArray) ++ ((⟨#[48, 49, 50, 51, 52, 53, 54, 55, 56, 57, 97, 98, 99, 100, 101, 102]⟩ : ByteArray).extract 1 16).extract 0 1 ++ ((⟨#[48, 49, 50, 51, 52, 53, 54, 55, 56, 57, 97, 98, 99, 100, 101, 102]⟩ : ByteArray).extract 15 16).extract 0 1) hlt hcc.out (hx0.out)], by simp, ⟨hlt⟩, ⟨pw_below_drewN HB.out _⟩⟩
        case measure => simp [intOf]; omega
      have d0 : decide ((c : Int) < 32) = false := decide_eq_false (by omega)
      have d1 : ((c : Int) == 34) = false := by simp; omega
      have d2 : ((c : Int) == 92) = false := by simp; omega
      have d3 : ((c : Int) == 8) = false := by simp; omega
      have d4 : ((c : Int) == 9) = false := by simp; omega
      have d5 : ((c : Int) == 10) = false := by simp; omega
      have d6 : ((c : Int) == 12) = false := by simp; omega
      have d7 : ((c : Int) == 13) = false := by simp; omega
      have hcv := conv_one wr c hc256
      go_wp2
      go_roundw
      case rel => exact ⟨i + 1, by rw [hxA.out, ← acc_next (x := ⟨#[UInt8.ofNat c]⟩) hlt hcc.out (by simp [quoteB, *]; omega)], by simp, ⟨hlt⟩, ⟨below_alloc HB.out _⟩⟩
      case measure => simp [intOf]; omega
    · have he : s.data.toList.take i = s.data.toList := List.take_of_length_le (by rw [Array.length_toList]; exact Nat.le_of_not_lt hlt)
      have hEnd : quoteF s = accF s i ++ ⟨#[34]⟩ := by
        apply ByteArray.ext
        apply Array.toList_inj.1
        rw [cat_list, acc_list, he]
        rfl
      go_wp2
      go_ret
      exact ⟨by rw [hEnd]; rfl, HB.out⟩
def bagnallref_jsonQuoted.f (a0 : ByteArray) : Option (ByteArray) := if a0.size ≤ 1000000000 then some (quoteF a0) else none
theorem bagnallref_jsonQuoted.calls (a0 : ByteArray) (r : ByteArray) (w : World) (h : bagnallref_jsonQuoted.f a0 = some r) :
    Calls Tryd.prog 25 #[.string a0] w fun e w' => e = .returned (.string r) ∧ Below w.heap.size w w' := by
  unfold bagnallref_jsonQuoted.f at h
  by_cases hs : a0.size ≤ 1000000000
  · rw [if_pos hs] at h
    obtain rfl := Option.some.inj h
    exact refQuoted_walk a0 hs w
  · rw [if_neg hs] at h
    exact absurd h (by simp)
end Go.Proofs.YtmecnjhjlhpehaaDoor.Q
