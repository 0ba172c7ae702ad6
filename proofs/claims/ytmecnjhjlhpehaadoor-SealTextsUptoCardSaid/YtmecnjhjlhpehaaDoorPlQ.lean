/- A text in quotes, as bytes: plain. -/
import Derived.Test.YtmecnjhjlhpehaaDoorQT
namespace Go.Proofs.YtmecnjhjlhpehaaDoor.Plain
open Go.RowKit
/-- A digit of base 16. -/
def hexD (n : Nat) : UInt8 := if n < 10 then UInt8.ofNat (48 + n) else UInt8.ofNat (87 + n)
/-- What stands for a byte. -/
def quoteB (c : Nat) : List UInt8 :=
  if c = 34 then [92, 34] else if c = 92 then [92, 92] else if c = 8 then [92, 98] else if c = 9 then [92, 116] else if c = 10 then [92, 110] else if c = 12 then [92, 102] else if c = 13 then [92, 114] else if c < 32 then [92, 117, 48, 48, hexD (c / 16), hexD (c % 16)] else [UInt8.ofNat c]
/-- What stands for bytes. -/
def quoteL (l : List UInt8) : List UInt8 := l.flatMap fun c => quoteB c.toNat
/-- A text in quotes. -/
def quoteF (s : ByteArray) : ByteArray := ⟨(34 :: quoteL s.data.toList ++ [34]).toArray⟩
theorem quoteB_le (c : Nat) : (quoteB c).length ≤ 6 := by
  unfold quoteB
  repeat' split
  all_goals simp
theorem quoteL_le : ∀ l : List UInt8, (quoteL l).length ≤ 6 * l.length
  | [] => by simp [quoteL]
  | c :: l => by
    have h1 := quoteL_le l
    have h2 := quoteB_le c.toNat
    simp only [quoteL, List.flatMap_cons, List.length_append, List.length_cons] at h1 ⊢
    omega
theorem quoteF_le (s : ByteArray) : (quoteF s).size ≤ 6 * s.size + 2 := by
  have h := quoteL_le s.data.toList
  have hs : (quoteF s).size = (quoteL s.data.toList).length + 2 := by
    show (34 :: quoteL s.data.toList ++ [34]).toArray.size = _
    simp only [List.size_toArray, List.length_append, List.length_cons, List.length_nil]
  have hl : s.data.toList.length = s.size := Array.length_toList
  omega
theorem quoteL_take {l : List UInt8} {i : Nat} (h : i < l.length) : quoteL (l.take (i + 1)) = quoteL (l.take i) ++ quoteB l[i].toNat := by
  unfold quoteL
  rw [List.take_succ_eq_append_getElem h, List.flatMap_append]
  simp
end Go.Proofs.YtmecnjhjlhpehaaDoor.Plain
