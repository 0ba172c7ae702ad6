/- rows.Next answers as the reference does, for every text; no condition. -/
import Derived.Test.YtnjidfgjldkkcaaQNl1
import Derived.Test.YtnjidfgjldkkcaaQNx1
import Derived.Test.YtnjidfgjldkkcaaQRa3
import Derived.Test.YtnjidfgjldkkcaaQRn
import Derived.Test.YtnjidfgjldkkcaaPlStr
namespace Go.Proofs.Ytnjidfgjldkkcaa.Pure
open Go.RowKit Go.Proofs.Ytnjidfgjldkkcaa.Q Go.Proofs.YtnjidfgjldkkcaaW.PrintWords Go.Proofs.Ytnjidfgjldkkcaa.Plain

theorem head_bytes (s : ByteArray) {n : Nat} : bytesOf (s.extract 0 n) = (bytesOf s).take n := by rw [bytes_extract, List.drop_zero]
theorem head_size (s : ByteArray) {n : Nat} (hn : n ≤ s.size) : (s.extract 0 n).size = n := by
  rw [← size_bytes, head_bytes, List.length_take, size_bytes]; omega
theorem head_bt (s : ByteArray) {n i : Nat} (hn : n ≤ s.size) (hi : i < n) : bt (s.extract 0 n) (i : Int) = bt s (i : Int) := by
  rw [bt_get (by rw [head_size s hn]; exact hi), bt_get (by omega)]
  simp only [head_bytes, List.getElem_take]
theorem head_head (s : ByteArray) {n m : Nat} (h : m ≤ n) : (s.extract 0 n).extract 0 m = s.extract 0 m := by
  apply str_inj
  rw [head_bytes, head_bytes, head_bytes, List.take_take, Nat.min_eq_left h]
theorem head_whole (s : ByteArray) : s.extract 0 s.size = s := by
  apply str_inj
  rw [head_bytes, List.take_of_length_le (by rw [size_bytes]; exact Nat.le_refl _)]

theorem suffix_zero (y : ByteArray) (h : y.size = 0) : strings_HasSuffix.f y (⟨#[255]⟩ : ByteArray) = some false := by
  unfold strings_HasSuffix.f stringslite_HasSuffix.f
  rw [if_neg (by have : (⟨#[255]⟩ : ByteArray).size = 1 := rfl; omega)]
  rfl
theorem suffix_succ (y : ByteArray) (m : Nat) (h : y.size = m + 1) (hm : m < 9223372036854775807) : strings_HasSuffix.f y (⟨#[255]⟩ : ByteArray) = some (decide (bt y (m : Int) = 255)) := by
  have e1 : (⟨#[255]⟩ : ByteArray).size = 1 := rfl
  have e2 : wrap64 ((y.size : Int) - ((⟨#[255]⟩ : ByteArray).size : Int)) = (m : Int) := by rw [e1, wrap_in (by omega) (by omega)]; omega
  unfold strings_HasSuffix.f stringslite_HasSuffix.f
  rw [if_pos (by omega), e2, if_pos (by omega), if_pos (by omega), Option.bind_some, Int.toNat_natCast]
  congr 1
  rw [Bool.eq_iff_iff, beq_iff_eq, decide_eq_true_eq, toList_inj]
  have e3 : bytesOf (y.extract m y.size) = [bt y (m : Int)] := by
    rw [bytes_extract, List.take_of_length_le (by rw [size_bytes]; exact Nat.le_refl _), bt_get (by omega : m < y.size), List.drop_eq_getElem_cons (by rw [size_bytes]; omega), List.drop_of_length_le (by rw [size_bytes]; omega)]
  have e4 : bytesOf (⟨#[255]⟩ : ByteArray) = [255] := rfl
  constructor
  · intro h
    have := e3.symm.trans ((congrArg bytesOf h).trans e4)
    simpa using this
  · intro h
    apply str_inj
    rw [e3, e4, h]

theorem next_ev (s : ByteArray) (hs : s.size ≤ 140737488351232) : ∀ n, n ≤ s.size → Ev (fun k => rows_Next.l0 k (s.extract 0 n)) (strOfNums (Q.raised s (trimLen s n)))
  | 0, hn => by
    have h0 := head_size s hn
    refine Ev.step (fun k => rfl) (Ev.bind (Ev.lift (suffix_zero _ h0)) (Ev.neg (by simp) (Ev.pos (empty_iff.2 h0) ?_)))
    exact Ev.now _
  | m + 1, hn => by
    have hz := head_size s hn
    have hb := head_bt s hn (Nat.lt_succ_self m)
    have e2 : wrap64 (((s.extract 0 (m + 1)).size : Int) - 1) = (m : Int) := by rw [hz, wrap_in (by omega) (by omega)]; omega
    refine Ev.step (fun k => rfl) (Ev.bind (Ev.lift (suffix_succ _ m hz (by omega))) ?_)
    rw [e2, hb]
    by_cases h : bt s (m : Int) = 255
    · rw [decide_eq_true h, Int.toNat_natCast, head_head s (Nat.le_succ m)]
      refine Ev.pos rfl (Ev.pos (by omega) (Ev.pos (by omega) ?_))
      rw [trimLen, if_pos h]
      exact next_ev s hs m (by omega)
    · rw [decide_eq_false h, Int.toNat_natCast, head_head s (Nat.le_succ m)]
      have hm := head_size s (show m ≤ s.size by omega)
      refine Ev.neg (by simp) (Ev.neg (fun e => by have := empty_iff.1 e; omega) (Ev.pos (by omega) (Ev.pos (by omega) (Ev.pos (by omega) ?_))))
      rw [Option.bind_some, strOfNums_size]
      refine Ev.pos (by simp; omega) (Ev.to (Ev.now _) ?_)
      rw [trimLen, if_neg h, ← str_bytes (s.extract 0 m), head_bytes, str_append]
      congr 1
      have hlt : m < (bytesOf s).length := by rw [size_bytes]; omega
      show _ = ((bytesOf s).take (m + 1)).set m ((bt s (m : Int) + 1) % 256)
      rw [List.take_succ_eq_append_getElem hlt, List.set_append_right _ _ (by rw [List.length_take]; omega)]
      simp [List.length_take, Nat.min_eq_left (Nat.le_of_lt hlt)]

theorem walkRowsNexts (W : World) (s : ByteArray) (ok : s.size ≤ 140737488351232) :
    Calls Try.prog 3 #[.string s] W fun e w' => e = .returned (.bool true) ∧ Below W.heap.size W w' := by
  obtain ⟨k, h⟩ : ∃ k, bagnalllaw_RowsNexts.f k s = some true := Ev.rounds (by
    unfold bagnalllaw_RowsNexts.f rows_Next.f bagnallref_RowsNext.f
    have h := next_ev s ok s.size (Nat.le_refl _)
    rw [head_whole] at h
    rw [if_pos ok]
    exact Ev.bind h (Ev.to (Ev.now _) (by simp [bagnallref_RowsNext.v])))
  exact bagnalllaw_RowsNexts.calls k s true W h

end Go.Proofs.Ytnjidfgjldkkcaa.Pure
