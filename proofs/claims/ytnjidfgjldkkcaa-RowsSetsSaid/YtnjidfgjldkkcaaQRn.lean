/- bagnallref.RowsNext, walked: for every text of at most 2^47 bytes; and what it answers. -/
import Derived.Test.YtnjidfgjldkkcaaQT
import Derived.LoopTactic
import Derived.Lib.Hide
import Derived.RowKit3
import Derived.Laws.AppendOwn
namespace Go.Proofs.Ytnjidfgjldkkcaa.Q
open Go.RowKit Go.Proofs.YtnjidfgjldkkcaaW.PrintWords Go.Proofs.YtnjidfgjldkkcaaW.PrintLast Go.Proofs.YtnjidfgjldkkcaaW.PrintMore
/-- How many bytes are left behind the last one that is not 255. -/
def trimLen (s : ByteArray) : Nat → Nat
  | 0 => 0
  | n + 1 => if bt s (n : Int) = 255 then trimLen s n else n + 1
/-- The first n bytes, the last of them one more. -/
def raised (s : ByteArray) : Nat → List Int
  | 0 => []
  | n + 1 => ((bytesOf s).take (n + 1)).set n ((bt s (n : Int) + 1) % 256)
def bagnallref_RowsNext.v (s : ByteArray) : ByteArray := strOfNums (raised s (trimLen s s.size))

theorem cell_bytes (w : World) (s : ByteArray) (j : Nat) (hj : j < s.size) : (Lib.bytesWorld w 5 s).cell? ⟨w.heap.size, j, none⟩ = some (.int .u8 (bt s (j : Int))) := by
  rw [Lib.bytesWorld_cell w 5 s j hj, ← rd_bytesOf]
  have h' : j < s.data.toList.length := by rw [data_length]; exact hj
  simp [rd, bytesOf, List.getD_eq_getElem?_getD, List.getElem?_eq_getElem h']
theorem frozen_bytes (w : World) (s : ByteArray) (j : Nat) (hj : j < s.size) : (Lib.bytesWorld w 5 s).frozen? ⟨w.heap.size, j, none⟩ = false := by
  have h := Lib.bytesWorld_at_new w 5 s
  have hz : s.size ≤ (Lib.bytesCells w 5 s).size := by
    unfold Lib.bytesCells
    rw [Array.size_append, Array.size_map]
    exact Nat.le_add_right _ _
  unfold World.frozen?
  simp only [h]
  simp
  omega
theorem raised_reads {W : World} {g n : Nat} (s : ByteArray) (hn : n + 1 ≤ s.size) (hs : s.size ≤ 140737488351232) (hc : ∀ j : Nat, j < s.size → W.cell? ⟨g, j, none⟩ = some (.int .u8 (bt s (j : Int)))) :
    ReadsInt (W.setCell ⟨g, n, none⟩ (.int .u8 ((bt s (n : Int) + 1) % 256))) .u8 (some ⟨g, 0, none⟩) (n + 1) (raised s (n + 1)) := by
  have hl : (bytesOf s).length = s.size := bytesOf_length s
  refine ⟨by simp [raised]; omega, by omega, fun _ => ⟨_, rfl, fun j hj => ?_⟩⟩
  rw [add_plain]
  have hj' : j < (bytesOf s).length := by omega
  by_cases e : j = n
  · subst e
    rw [World.cell?_setCell_same (h := hc j (by omega))]
    congr 2
    have hlt : j < (((bytesOf s).take (j + 1)).set j ((bt s (j : Int) + 1) % 256)).length := by simp; omega
    unfold raised
    rw [List.getD_eq_getElem?_getD, List.getElem?_eq_getElem hlt, List.getElem_set_self]
    rfl
  · rw [World.cell?_setCell_other (h := fun (h : (⟨g, n, none⟩ : Addr) = ⟨g, j, none⟩) => e (by injection h with _ h2 _; exact h2.symm)), hc j (by omega)]
    congr 2
    rw [← rd_bytesOf]
    unfold rd raised
    rw [List.getD_eq_getElem?_getD, List.getD_eq_getElem?_getD, List.getElem?_set_ne (Ne.symm e), List.getElem?_take, if_pos (by omega), Int.toNat_natCast]
set_option maxRecDepth 100000 in
set_option maxHeartbeats 1600000 in
theorem RowsNext_walk (s : ByteArray) (w : World) (hs : s.size ≤ 140737488351232) :
    Calls Try.prog 17 #[.string s] w fun e w' => e = .returned (.string (bagnallref_RowsNext.v s)) ∧ Below w.heap.size w w' := by
  have kc := fun (w : World) => Lib.run_convert_string_bytes (P := Try.prog) w 9 36 5 s Try.underlying9 Try.underlying36 Try.underlying5
  go_enter Try.func17, Try.ntmps17
  go_wp2
  have hb := bytes_below (Below.refl w.heap.size w) (Nat.le_refl _) 5 s
  have hc : Hid (∀ j : Nat, j < s.size → (Lib.bytesWorld w 5 s).cell? ⟨w.heap.size, j, none⟩ = some (.int .u8 (bt s (j : Int)))) := cell_bytes w s
  have hz : Hid (∀ j : Nat, j < s.size → (Lib.bytesWorld w 5 s).frozen? ⟨w.heap.size, j, none⟩ = false) := frozen_bytes w s
  have hC : s.size ≤ grownCap w s.size 0 5 := grownCap_ge w s.size 0 5
  generalize Lib.bytesWorld w 5 s = W1 at *
  clear kc
  generalize grownCap w s.size 0 5 = C at *
  go_loop [3] (fun v => ∃ n : Nat, n ≤ s.size ∧ Aside0 (trimLen s n = trimLen s s.size) ∧ v = .slice (some ⟨w.heap.size, 0, none⟩) n C) (fun v => match v with | .slice _ n _ => n | _ => 0)
  case atStart => exact ⟨s.size, Nat.le_refl _, ⟨rfl⟩, rfl⟩
  case round =>
    obtain ⟨n, hn, ht, rfl⟩ := hrel
    cases n with
    | zero =>
      have ks := fun (W : World) => string_of_reads (P := Try.prog) (w := W) (A := some ⟨w.heap.size, 0, none⟩) (n := 0) (c := C) (xs := []) Try.underlying36 Try.underlying5 Try.underlying9 ⟨rfl, by simp, fun h => absurd h (by simp)⟩
      go_wp2
      go_ret
      refine ⟨?_, hb⟩
      unfold bagnallref_RowsNext.v
      rw [← ht.out]
      rfl
    | succ n =>
      have hcn := hc.out n (by omega)
      have hzn := hz.out n (by omega)
      have hnC : n ≤ C := by omega
      by_cases h255 : bt s (n : Int) = 255
      · have hbt : (bt s (n : Int) == 255) = true := by simpa using h255
        have HT : Aside0 (trimLen s n = trimLen s s.size) := ⟨by rw [← ht.out, trimLen, if_pos h255]⟩
        go_wp2
        go_round
        case rel => exact ⟨n, by omega, HT, rfl⟩
        case measure => show n < n + 1; omega
      · have hbt : (bt s (n : Int) == 255) = false := by simpa using h255
        have ks := string_of_reads (P := Try.prog) (c := C) Try.underlying36 Try.underlying5 Try.underlying9 (raised_reads s hn hs hc.out)
        have HT : Aside0 (trimLen s s.size = n + 1) := ⟨by rw [← ht.out, trimLen, if_neg h255]⟩
        go_wp2
        go_ret
        refine ⟨?_, hb.setCell (Nat.le_refl _) _⟩
        unfold bagnallref_RowsNext.v
        rw [HT.out]
        rfl

def bagnallref_RowsNext.f (s : ByteArray) : Option ByteArray := if s.size ≤ 140737488351232 then some (bagnallref_RowsNext.v s) else none
theorem bagnallref_RowsNext.calls (a0 : ByteArray) (r : ByteArray) (w : World) (h : bagnallref_RowsNext.f a0 = some r) :
    Calls Try.prog 17 #[.string a0] w fun e w' => e = .returned (.string r) ∧ Below w.heap.size w w' := by
  unfold bagnallref_RowsNext.f at h
  split at h
  · rename_i hs
    obtain rfl := Option.some.inj h
    exact RowsNext_walk a0 w hs
  · cases h
end Go.Proofs.Ytnjidfgjldkkcaa.Q
