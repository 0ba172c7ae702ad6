/- Plain words on texts as lists of numbers. No program. -/
import Derived.Test.YtnjidfgjldkkcaaEv
import Derived.WideShapes
import Derived.Lib.LazyBuf
namespace Go.Proofs.Ytnjidfgjldkkcaa.Plain
open Go.RowKit Go.Proofs.YtnjidfgjldkkcaaW.PrintWords
theorem str_bytes (s : ByteArray) : strOfNums (bytesOf s) = s := by
  unfold bytesOf
  apply Go.WideShapes.bytes_inj
  simp only [strOfNums, List.map_map]
  have e : ((fun n : Int => UInt8.ofNat n.toNat) ∘ fun b : UInt8 => (b.toNat : Int)) = id := by
    funext b
    simp
  rw [e, List.map_id]
theorem str_inj {a b : ByteArray} (h : bytesOf a = bytesOf b) : a = b := by rw [← str_bytes a, ← str_bytes b, h]
theorem str_append (xs ys : List Int) : strOfNums xs ++ strOfNums ys = strOfNums (xs ++ ys) := by
  apply Go.WideShapes.bytes_inj
  simp [strOfNums, ByteArray.data_append]
theorem bytes_extract (s : ByteArray) (a b : Nat) : bytesOf (s.extract a b) = ((bytesOf s).take b).drop a := by
  unfold bytesOf
  rw [ByteArray.data_extract, Array.toList_extract, List.map_take, List.map_drop, List.drop_take]
theorem size_bytes (s : ByteArray) : (bytesOf s).length = s.size := bytesOf_length s
theorem bt_get {s : ByteArray} {i : Nat} (h : i < s.size) : bt s (i : Int) = (bytesOf s)[i]'(by rw [size_bytes]; exact h) := by
  rw [← rd_bytesOf]; exact rd_at _
theorem toList_bytes (s : ByteArray) : bytesOf s = s.toList.map fun b => (b.toNat : Int) := by
  rw [Go.ByteArray.toList_eq]; rfl
theorem toList_inj {a b : ByteArray} : a.toList = b.toList ↔ a = b := by
  constructor
  · intro h; exact str_inj (by rw [toList_bytes, toList_bytes, h])
  · rintro rfl; rfl
end Go.Proofs.Ytnjidfgjldkkcaa.Plain
