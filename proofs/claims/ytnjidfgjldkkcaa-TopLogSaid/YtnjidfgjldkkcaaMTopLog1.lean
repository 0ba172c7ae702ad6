/- Texts of this claim, laid together: QX, QT, QMt, QPk, QRb, QPc1, QBs, QCl, QCh, QWs, QWf, QRa1. -/
import Derived.Test.YtnjidfgjldkkcaaWWords
import Derived.Test.YtnjidfgjldkkcaaProg
import Derived.Below
import Derived.Deep.Draws
import Derived.Deep.AppendLies
import Derived.Maps.AppendAt
import Derived.OwnWalk
import Derived.Laws.BytesArg
import Derived.Laws.MakeOwn
import Derived.Laws.OwnMore
import Derived.Deep.OwnRows
import Derived.Tactics
import Derived.Lib.ConvBytes
import Derived.Laws.Slices
import Derived.WalkKit
import Derived.KernelRfl
import Derived.RowKit3
import Derived.Deep.LoopGhost
import Derived.Deep.QuietTactic
import Derived.BigQuiet
import Derived.WideLaws
import Derived.Deep.DeepCutAuto
import Derived.Deep.CutBlock
import Derived.Deep.RegionHeld3
import Derived.Laws.Rows
import Derived.Lib.AppendStr
import Derived.ArgAppend
import Derived.Laws.IdiomCopy
import Derived.OrdersHeld
import Derived.Laws.BitsLemmas
import Derived.RowKit
import Derived.Test.YtnjidfgjldkkcaaWLast
import Derived.Test.YtnjidfgjldkkcaaWTab
import Derived.Test.YtnjidfgjldkkcaaWFour
import Derived.Test.YtnjidfgjldkkcaaWQPut
import Derived.Test.YtnjidfgjldkkcaaWApart
import Derived.Test.YtnjidfgjldkkcaaWArr
import Derived.Test.YtnjidfgjldkkcaaWZeros
import Derived.Test.YtnjidfgjldkkcaaWFoot
import Derived.Test.YtnjidfgjldkkcaaWKept
import Derived.Test.YtnjidfgjldkkcaaWShare
import Derived.Test.YtnjidfgjldkkcaaWN
import Derived.Test.YtnjidfgjldkkcaaWFootNe
import Derived.Test.YtnjidfgjldkkcaaWAt
import Derived.Test.YtnjidfgjldkkcaaWEqStruct
import Derived.Test.YtnjidfgjldkkcaaWRepsOne
import Derived.Test.YtnjidfgjldkkcaaWInv
import Derived.Test.YtnjidfgjldkkcaaWInvWords
import Derived.Test.YtnjidfgjldkkcaaWGuard
import Derived.Test.YtnjidfgjldkkcaaWNEv
import Derived.Test.YtnjidfgjldkkcaaWMore
import Derived.IntWalk
import Derived.Deep.RegionLaw
import Derived.Shelf.Spec.SlicesInsertGrow
import Derived.Lib.AppendZerosOnto
import Derived.LoopTactic
import Derived.Lib.Hide
import Derived.Lib.SliceRun
import Derived.WalkSpells
/- Small laws for the walks of this seat: '>', '>=', '<=' on strings. No program. -/
namespace Go.Proofs.Ytnjidfgjldkkcaa.Q
open Go.RowKit Go.Proofs.YtnjidfgjldkkcaaW.PrintWords
theorem less_or : ∀ (x y : List UInt8), (Op.bytesLess x y || x == y) = !(Op.bytesLess y x)
  | [], [] => by simp [Op.bytesLess]
  | [], _ :: _ => by simp [Op.bytesLess]
  | _ :: _, [] => by simp [Op.bytesLess]
  | a :: x, b :: y => by
    have ih := less_or x y
    simp only [Op.bytesLess, List.cons_beq_cons]
    by_cases h1 : a < b
    · have h2 : ¬ b < a := fun h => by have := UInt8.lt_iff_toNat_lt.1 h1; have := UInt8.lt_iff_toNat_lt.1 h; omega
      have h3 : ¬ b = a := fun h => by subst h; exact h2 h1
      simp [h1, h2, h3]
    · by_cases h2 : b < a
      · have h3 : ¬ a = b := fun h => by subst h; exact h1 h2
        simp [h1, h2, h3]
      · have h3 : a = b := by
          apply UInt8.toNat_inj.1
          have k1 : ¬ a.toNat < b.toNat := fun h => h1 (UInt8.lt_iff_toNat_lt.2 h)
          have k2 : ¬ b.toNat < a.toNat := fun h => h2 (UInt8.lt_iff_toNat_lt.2 h)
          omega
        subst h3
        simp only [h1, decide_false, Bool.false_or, beq_self_eq_true, Bool.true_and]
        exact ih
theorem xq_geq (t : TypeId) (a b : ByteArray) : binOp .geq t (.string a) (.string b) = pure (.bool !(Op.bytesLess a.toList b.toList)) := by simp [binOp, Op.stringOp]
theorem xq_leq (t : TypeId) (a b : ByteArray) : binOp .leq t (.string a) (.string b) = pure (.bool !(Op.bytesLess b.toList a.toList)) := by simp [binOp, Op.stringOp, less_or]
theorem xq_gtr (t : TypeId) (a b : ByteArray) : binOp .gtr t (.string a) (.string b) = pure (.bool (Op.bytesLess b.toList a.toList)) := by simp [binOp, Op.stringOp, less_or]
end Go.Proofs.Ytnjidfgjldkkcaa.Q
-- Written for this seat by a program of its session (xp.py over the kit's printer).
namespace Go.Proofs.Ytnjidfgjldkkcaa.Q
open Go.RowKit Go.Proofs.YtnjidfgjldkkcaaW.PrintWords Go.Proofs.YtnjidfgjldkkcaaW.PrintLast Go.Proofs.YtnjidfgjldkkcaaW.PrintMore
attribute [local go_sem] max2_int min2_int max_two min_two max_three min_three max_four min_four xq_geq xq_leq xq_gtr   -- for this text's walks alone
set_option linter.unusedVariables false
set_option linter.unusedSimpArgs false



def errW : Option Int → Value
  | none => .nilIface
  | some c => .iface 0 (.int .i64 c)
theorem errW_none : errW none = .nilIface := rfl
theorem errW_some (c : Int) : errW (some c) = .iface 0 (.int .i64 c) := rfl

-- the values' own types

theorem info3 : (Try.prog.info? 3).map (fun i => (i.zero, i.size, i.bytes)) = some (some (.int .i64 0), 1, 8) := by kernel_rfl
theorem info5 : (Try.prog.info? 5).map (fun i => (i.zero, i.size, i.bytes)) = some (some (.int .u8 0), 1, 1) := by kernel_rfl
theorem info25 : (Try.prog.info? 25).map (fun i => (i.zero, i.size, i.bytes)) = some (some (.int .i64 0), 1, 8) := by kernel_rfl
theorem info35 : (Try.prog.info? 35).map (fun i => (i.zero, i.size, i.bytes)) = some (some (.slice none 0 0), 1, 24) := by kernel_rfl
theorem info36 : (Try.prog.info? 36).map (fun i => (i.zero, i.size, i.bytes)) = some (some (.slice none 0 0), 1, 24) := by kernel_rfl
theorem info62 : (Try.prog.info? 62).map (fun i => (i.zero, i.size, i.bytes)) = some (some (.agg #[(.int .i64 0), (.slice none 0 0)]), 2, 32) := by kernel_rfl
theorem info67 : (Try.prog.info? 67).map (fun i => (i.zero, i.size, i.bytes)) = some (some (.agg #[(.int .i64 0), (.slice none 0 0), (.string ⟨#[]⟩), (.int .i64 0)]), 4, 56) := by kernel_rfl
theorem info69 : (Try.prog.info? 69).map (fun i => (i.zero, i.size, i.bytes)) = some (some (.agg #[(.string ⟨#[]⟩), (.string ⟨#[]⟩)]), 2, 32) := by kernel_rfl
theorem info72 : (Try.prog.info? 72).map (fun i => (i.zero, i.size, i.bytes)) = some (some (.agg #[(.int .i64 0), (.slice none 0 0), (.int .i64 0)]), 3, 40) := by kernel_rfl
theorem info100 : (Try.prog.info? 100).map (fun i => (i.zero, i.size, i.bytes)) = some (some (.agg #[(.int .i64 0), (.slice none 0 0), (.int .i64 0)]), 3, 40) := by kernel_rfl
/-! #### struct type 69 -/
structure S69 where
  f0 : ByteArray
  f1 : ByteArray
def z69 : S69 := ⟨(⟨#[]⟩ : ByteArray), (⟨#[]⟩ : ByteArray)⟩
def k69 : Kd S69 := Kd.iso (Kd.pair Kd.string Kd.string) (fun x : S69 => (x.f0, x.f1))
theorem k69_heap : Kd.Heap k69 := Kd.heap_iso _ (Kd.heap_pair Kd.heap_string Kd.heap_string)
theorem k69_open {w : World} {x : S69} {cs : List Value} (h : k69.K w x cs) : cs = [.string x.f0, .string x.f1] := by
  obtain ⟨_, _, rfl, rfl, rfl⟩ := h
  exact rfl
theorem k69_openM {w : World} {base : Nat} {ok : Nat → Prop} {x : S69} {cs : List Value} (h : k69.M w base ok x cs) : cs = [.string x.f0, .string x.f1] := by
  obtain ⟨_, _, rfl, rfl, rfl⟩ := h
  exact rfl
theorem k69_mk (w : World) (x : S69)  : k69.K w x [.string x.f0, .string x.f1] := ⟨[.string x.f0], [.string x.f1], rfl, rfl, rfl⟩
theorem k69_mkM (w : World) (base : Nat) (ok : Nat → Prop) (x : S69)  : k69.M w base ok x [.string x.f0, .string x.f1] := ⟨[.string x.f0], [.string x.f1], rfl, rfl, rfl⟩
theorem k69_mkF (W : World) (ok : Nat → Prop) (x : S69) : Kd.FK k69 W ok x [.string x.f0, .string x.f1] := fun W2 _ => k69_mk W2 x
def rd_T69 (xs : List S69) (i : Int) : S69 := xs.getD i.toNat z69
theorem at_T69 {w : World} {A : Option Addr} {n : Nat} {xs : List S69} (h : Kd.C k69 w A n xs) (i : Int) (h0 : 0 ≤ i) (h1 : i < n) : ∃ ad , A = some ad ∧ w.cell? (ad.add (i.toNat * 2)) = some (.string (rd_T69 xs i).f0) ∧ w.cell? ⟨(ad.add (i.toNat * 2)).block, (ad.add (i.toNat * 2)).off + 1, none⟩ = some (.string (rd_T69 xs i).f1) := by
  obtain ⟨ad, c, e, _, hK, hc0⟩ := Kd.C_get h z69 i h0 h1
  have hc : ∀ j u, c[j]? = some u → w.cell? (ad.add (i.toNat * 2 + j)) = some u := hc0
  obtain rfl := k69_open hK
  exact ⟨ad, e, hc 0 _ rfl, by rw [← add_field _ _ 1 (by omega)]; exact hc 1 _ rfl⟩

def rd_L2 (xs : List (List S69)) (i : Int) : (List S69) := xs.getD i.toNat ([] : List S69)
theorem at_L2 {w : World} {A : Option Addr} {n : Nat} {xs : List (List S69)} (h : Kd.C (Kd.slice 69 k69) w A n xs) (i : Int) (h0 : 0 ≤ i) (h1 : i < n) : ∃ ad A0 c0, A = some ad ∧ w.cell? (ad.add i.toNat) = some (.slice A0 (rd_L2 xs i).length c0) ∧ (rd_L2 xs i).length ≤ c0 ∧ k69.C w A0 (rd_L2 xs i).length (rd_L2 xs i) := by
  obtain ⟨ad, c, e, _, hK, hc0⟩ := Kd.C_get h ([] : List S69) i h0 h1
  have hc : ∀ j u, c[j]? = some u → w.cell? (ad.add (i.toNat * 1 + j)) = some u := hc0
  obtain ⟨A0, c0, rfl, l0, g0⟩ := hK
  exact ⟨ad, A0, c0, e, by have hq := hc 0 _ rfl; rwa [Nat.mul_one, Nat.add_zero] at hq, l0, g0⟩

def rd_L4 (xs : List (List Int)) (i : Int) : (List Int) := xs.getD i.toNat ([] : List Int)
theorem at_L4 {w : World} {A : Option Addr} {n : Nat} {xs : List (List Int)} (h : Kd.C (Kd.slice 5 (Kd.int .u8)) w A n xs) (i : Int) (h0 : 0 ≤ i) (h1 : i < n) : ∃ ad A0 c0, A = some ad ∧ w.cell? (ad.add i.toNat) = some (.slice A0 (rd_L4 xs i).length c0) ∧ (rd_L4 xs i).length ≤ c0 ∧ (Kd.int .u8).C w A0 (rd_L4 xs i).length (rd_L4 xs i) := by
  obtain ⟨ad, c, e, _, hK, hc0⟩ := Kd.C_get h ([] : List Int) i h0 h1
  have hc : ∀ j u, c[j]? = some u → w.cell? (ad.add (i.toNat * 1 + j)) = some u := hc0
  obtain ⟨A0, c0, rfl, l0, g0⟩ := hK
  exact ⟨ad, A0, c0, e, by have hq := hc 0 _ rfl; rwa [Nat.mul_one, Nat.add_zero] at hq, l0, g0⟩

def rd_L5 (xs : List (List (List Int))) (i : Int) : (List (List Int)) := xs.getD i.toNat ([] : List (List Int))
theorem at_L5 {w : World} {A : Option Addr} {n : Nat} {xs : List (List (List Int))} (h : Kd.C (Kd.slice 36 (Kd.slice 5 (Kd.int .u8))) w A n xs) (i : Int) (h0 : 0 ≤ i) (h1 : i < n) : ∃ ad A0 c0, A = some ad ∧ w.cell? (ad.add i.toNat) = some (.slice A0 (rd_L5 xs i).length c0) ∧ (rd_L5 xs i).length ≤ c0 ∧ (Kd.slice 5 (Kd.int .u8)).C w A0 (rd_L5 xs i).length (rd_L5 xs i) := by
  obtain ⟨ad, c, e, _, hK, hc0⟩ := Kd.C_get h ([] : List (List Int)) i h0 h1
  have hc : ∀ j u, c[j]? = some u → w.cell? (ad.add (i.toNat * 1 + j)) = some u := hc0
  obtain ⟨A0, c0, rfl, l0, g0⟩ := hK
  exact ⟨ad, A0, c0, e, by have hq := hc 0 _ rfl; rwa [Nat.mul_one, Nat.add_zero] at hq, l0, g0⟩

def rd_L6 (xs : List (List (List (List Int)))) (i : Int) : (List (List (List Int))) := xs.getD i.toNat ([] : List (List (List Int)))
theorem at_L6 {w : World} {A : Option Addr} {n : Nat} {xs : List (List (List (List Int)))} (h : Kd.C (Kd.slice 35 (Kd.slice 36 (Kd.slice 5 (Kd.int .u8)))) w A n xs) (i : Int) (h0 : 0 ≤ i) (h1 : i < n) : ∃ ad A0 c0, A = some ad ∧ w.cell? (ad.add i.toNat) = some (.slice A0 (rd_L6 xs i).length c0) ∧ (rd_L6 xs i).length ≤ c0 ∧ (Kd.slice 36 (Kd.slice 5 (Kd.int .u8))).C w A0 (rd_L6 xs i).length (rd_L6 xs i) := by
  obtain ⟨ad, c, e, _, hK, hc0⟩ := Kd.C_get h ([] : List (List (List Int))) i h0 h1
  have hc : ∀ j u, c[j]? = some u → w.cell? (ad.add (i.toNat * 1 + j)) = some u := hc0
  obtain ⟨A0, c0, rfl, l0, g0⟩ := hK
  exact ⟨ad, A0, c0, e, by have hq := hc 0 _ rfl; rwa [Nat.mul_one, Nat.add_zero] at hq, l0, g0⟩

/-! #### struct type 72 -/
structure S72 where
  f0 : Int
  f1 : (List Int)
  f2 : Int
def z72 : S72 := ⟨(0 : Int), ([] : List Int), (0 : Int)⟩
def k72 : Kd S72 := Kd.iso (Kd.pair (Kd.int .i64) (Kd.pair (Kd.slice 5 (Kd.int .u8)) (Kd.int .i64))) (fun x : S72 => (x.f0, x.f1, x.f2))
theorem k72_heap : Kd.Heap k72 := Kd.heap_iso _ (Kd.heap_pair (Kd.heap_int .i64) (Kd.heap_pair (Kd.heap_slice 5 (Kd.heap_int .u8)) (Kd.heap_int .i64)))
theorem k72_open {w : World} {x : S72} {cs : List Value} (h : k72.K w x cs) : ∃ A1 c1, cs = [.int .i64 x.f0, .slice A1 x.f1.length c1, .int .i64 x.f2] ∧ x.f1.length ≤ c1 ∧ (Kd.int .u8).C w A1 x.f1.length x.f1 := by
  obtain ⟨_, _, rfl, rfl, ⟨_, _, rfl, ⟨A1, c1, rfl, l1, g1⟩, rfl⟩⟩ := h
  exact ⟨A1, c1, rfl, l1, g1⟩
theorem k72_openM {w : World} {base : Nat} {ok : Nat → Prop} {x : S72} {cs : List Value} (h : k72.M w base ok x cs) : ∃ v1, cs = [.int .i64 x.f0, v1, .int .i64 x.f2] ∧ (Kd.int .u8).R 5 w base ok v1 x.f1 := by
  obtain ⟨_, _, rfl, rfl, ⟨_, _, rfl, ⟨v1, rfl, g1⟩, rfl⟩⟩ := h
  exact ⟨v1, rfl, g1⟩
theorem k72_mk (w : World) (x : S72) {A1 : Option Addr} {c1 : Nat} (l1 : x.f1.length ≤ c1) (g1 : (Kd.int .u8).C w A1 x.f1.length x.f1) : k72.K w x [.int .i64 x.f0, .slice A1 x.f1.length c1, .int .i64 x.f2] := ⟨[.int .i64 x.f0], [.slice A1 x.f1.length c1, .int .i64 x.f2], rfl, rfl, ⟨[.slice A1 x.f1.length c1], [.int .i64 x.f2], rfl, ⟨A1, c1, rfl, l1, g1⟩, rfl⟩⟩
theorem k72_mkM (w : World) (base : Nat) (ok : Nat → Prop) (x : S72) {v1 : Value} (g1 : (Kd.int .u8).R 5 w base ok v1 x.f1) : k72.M w base ok x [.int .i64 x.f0, v1, .int .i64 x.f2] := ⟨[.int .i64 x.f0], [v1, .int .i64 x.f2], rfl, rfl, ⟨[v1], [.int .i64 x.f2], rfl, ⟨v1, rfl, g1⟩, rfl⟩⟩
theorem k72_openF {W : World} {ok : Nat → Prop} {x : S72} {cs : List Value} (h : Kd.FK k72 W ok x cs) : ∃ A1 c1, cs = [.int .i64 x.f0, .slice A1 x.f1.length c1, .int .i64 x.f2] ∧ x.f1.length ≤ c1 ∧ Kd.F (Kd.int .u8) W ok A1 x.f1.length x.f1 := by
  obtain ⟨A1, c1, rfl, l1, _⟩ := k72_open (Kd.FK_now h)
  exact ⟨A1, c1, rfl, l1, (fun W' hW => by obtain ⟨A1_, c1_, he, l1_, g1_⟩ := k72_open (h W' hW); injection (Option.some.inj (show some (Value.slice A1 x.f1.length c1) = some (Value.slice A1_ x.f1.length c1_) from congrArg (fun l => l[1]?) he)) with ha_ _ _; rw [ha_]; exact g1_)⟩
theorem k72_mkF (W : World) (ok : Nat → Prop) (x : S72) {A1 : Option Addr} {c1 : Nat} (l1 : x.f1.length ≤ c1) (g1 : Kd.F (Kd.int .u8) W ok A1 x.f1.length x.f1) : Kd.FK k72 W ok x [.int .i64 x.f0, .slice A1 x.f1.length c1, .int .i64 x.f2] := fun W2 hW => k72_mk W2 x l1 (g1 W2 hW)
def rd_T72 (xs : List S72) (i : Int) : S72 := xs.getD i.toNat z72
theorem at_T72 {w : World} {A : Option Addr} {n : Nat} {xs : List S72} (h : Kd.C k72 w A n xs) (i : Int) (h0 : 0 ≤ i) (h1 : i < n) : ∃ ad A1 c1, A = some ad ∧ w.cell? (ad.add (i.toNat * 3)) = some (.int .i64 (rd_T72 xs i).f0) ∧ w.cell? ⟨(ad.add (i.toNat * 3)).block, (ad.add (i.toNat * 3)).off + 1, none⟩ = some (.slice A1 (rd_T72 xs i).f1.length c1) ∧ w.cell? ⟨(ad.add (i.toNat * 3)).block, (ad.add (i.toNat * 3)).off + 2, none⟩ = some (.int .i64 (rd_T72 xs i).f2) ∧ (rd_T72 xs i).f1.length ≤ c1 ∧ (Kd.int .u8).C w A1 (rd_T72 xs i).f1.length (rd_T72 xs i).f1 := by
  obtain ⟨ad, c, e, _, hK, hc0⟩ := Kd.C_get h z72 i h0 h1
  have hc : ∀ j u, c[j]? = some u → w.cell? (ad.add (i.toNat * 3 + j)) = some u := hc0
  obtain ⟨A1, c1, rfl, l1, g1⟩ := k72_open hK
  exact ⟨ad, A1, c1, e, hc 0 _ rfl, by rw [← add_field _ _ 1 (by omega)]; exact hc 1 _ rfl, by rw [← add_field _ _ 2 (by omega)]; exact hc 2 _ rfl, l1, g1⟩

def rd_L9 (xs : List (List S72)) (i : Int) : (List S72) := xs.getD i.toNat ([] : List S72)
theorem at_L9 {w : World} {A : Option Addr} {n : Nat} {xs : List (List S72)} (h : Kd.C (Kd.slice 72 k72) w A n xs) (i : Int) (h0 : 0 ≤ i) (h1 : i < n) : ∃ ad A0 c0, A = some ad ∧ w.cell? (ad.add i.toNat) = some (.slice A0 (rd_L9 xs i).length c0) ∧ (rd_L9 xs i).length ≤ c0 ∧ k72.C w A0 (rd_L9 xs i).length (rd_L9 xs i) := by
  obtain ⟨ad, c, e, _, hK, hc0⟩ := Kd.C_get h ([] : List S72) i h0 h1
  have hc : ∀ j u, c[j]? = some u → w.cell? (ad.add (i.toNat * 1 + j)) = some u := hc0
  obtain ⟨A0, c0, rfl, l0, g0⟩ := hK
  exact ⟨ad, A0, c0, e, by have hq := hc 0 _ rfl; rwa [Nat.mul_one, Nat.add_zero] at hq, l0, g0⟩

def rd_L10 (xs : List (List Int)) (i : Int) : (List Int) := xs.getD i.toNat ([] : List Int)
theorem at_L10 {w : World} {A : Option Addr} {n : Nat} {xs : List (List Int)} (h : Kd.C (Kd.slice 25 (Kd.int .i64)) w A n xs) (i : Int) (h0 : 0 ≤ i) (h1 : i < n) : ∃ ad A0 c0, A = some ad ∧ w.cell? (ad.add i.toNat) = some (.slice A0 (rd_L10 xs i).length c0) ∧ (rd_L10 xs i).length ≤ c0 ∧ (Kd.int .i64).C w A0 (rd_L10 xs i).length (rd_L10 xs i) := by
  obtain ⟨ad, c, e, _, hK, hc0⟩ := Kd.C_get h ([] : List Int) i h0 h1
  have hc : ∀ j u, c[j]? = some u → w.cell? (ad.add (i.toNat * 1 + j)) = some u := hc0
  obtain ⟨A0, c0, rfl, l0, g0⟩ := hK
  exact ⟨ad, A0, c0, e, by have hq := hc 0 _ rfl; rwa [Nat.mul_one, Nat.add_zero] at hq, l0, g0⟩

/-! #### struct type 67 -/
structure S67 where
  f0 : Int
  f1 : (List S69)
  f2 : ByteArray
  f3 : Int
def z67 : S67 := ⟨(0 : Int), ([] : List S69), (⟨#[]⟩ : ByteArray), (0 : Int)⟩
def k67 : Kd S67 := Kd.iso (Kd.pair (Kd.int .i64) (Kd.pair (Kd.slice 69 k69) (Kd.pair Kd.string (Kd.int .i64)))) (fun x : S67 => (x.f0, x.f1, x.f2, x.f3))
theorem k67_heap : Kd.Heap k67 := Kd.heap_iso _ (Kd.heap_pair (Kd.heap_int .i64) (Kd.heap_pair (Kd.heap_slice 69 k69_heap) (Kd.heap_pair Kd.heap_string (Kd.heap_int .i64))))
theorem k67_open {w : World} {x : S67} {cs : List Value} (h : k67.K w x cs) : ∃ A1 c1, cs = [.int .i64 x.f0, .slice A1 x.f1.length c1, .string x.f2, .int .i64 x.f3] ∧ x.f1.length ≤ c1 ∧ k69.C w A1 x.f1.length x.f1 := by
  obtain ⟨_, _, rfl, rfl, ⟨_, _, rfl, ⟨A1, c1, rfl, l1, g1⟩, ⟨_, _, rfl, rfl, rfl⟩⟩⟩ := h
  exact ⟨A1, c1, rfl, l1, g1⟩
theorem k67_openM {w : World} {base : Nat} {ok : Nat → Prop} {x : S67} {cs : List Value} (h : k67.M w base ok x cs) : ∃ v1, cs = [.int .i64 x.f0, v1, .string x.f2, .int .i64 x.f3] ∧ k69.R 69 w base ok v1 x.f1 := by
  obtain ⟨_, _, rfl, rfl, ⟨_, _, rfl, ⟨v1, rfl, g1⟩, ⟨_, _, rfl, rfl, rfl⟩⟩⟩ := h
  exact ⟨v1, rfl, g1⟩
theorem k67_mk (w : World) (x : S67) {A1 : Option Addr} {c1 : Nat} (l1 : x.f1.length ≤ c1) (g1 : k69.C w A1 x.f1.length x.f1) : k67.K w x [.int .i64 x.f0, .slice A1 x.f1.length c1, .string x.f2, .int .i64 x.f3] := ⟨[.int .i64 x.f0], [.slice A1 x.f1.length c1, .string x.f2, .int .i64 x.f3], rfl, rfl, ⟨[.slice A1 x.f1.length c1], [.string x.f2, .int .i64 x.f3], rfl, ⟨A1, c1, rfl, l1, g1⟩, ⟨[.string x.f2], [.int .i64 x.f3], rfl, rfl, rfl⟩⟩⟩
theorem k67_mkM (w : World) (base : Nat) (ok : Nat → Prop) (x : S67) {v1 : Value} (g1 : k69.R 69 w base ok v1 x.f1) : k67.M w base ok x [.int .i64 x.f0, v1, .string x.f2, .int .i64 x.f3] := ⟨[.int .i64 x.f0], [v1, .string x.f2, .int .i64 x.f3], rfl, rfl, ⟨[v1], [.string x.f2, .int .i64 x.f3], rfl, ⟨v1, rfl, g1⟩, ⟨[.string x.f2], [.int .i64 x.f3], rfl, rfl, rfl⟩⟩⟩
theorem k67_openF {W : World} {ok : Nat → Prop} {x : S67} {cs : List Value} (h : Kd.FK k67 W ok x cs) : ∃ A1 c1, cs = [.int .i64 x.f0, .slice A1 x.f1.length c1, .string x.f2, .int .i64 x.f3] ∧ x.f1.length ≤ c1 ∧ Kd.F k69 W ok A1 x.f1.length x.f1 := by
  obtain ⟨A1, c1, rfl, l1, _⟩ := k67_open (Kd.FK_now h)
  exact ⟨A1, c1, rfl, l1, (fun W' hW => by obtain ⟨A1_, c1_, he, l1_, g1_⟩ := k67_open (h W' hW); injection (Option.some.inj (show some (Value.slice A1 x.f1.length c1) = some (Value.slice A1_ x.f1.length c1_) from congrArg (fun l => l[1]?) he)) with ha_ _ _; rw [ha_]; exact g1_)⟩
theorem k67_mkF (W : World) (ok : Nat → Prop) (x : S67) {A1 : Option Addr} {c1 : Nat} (l1 : x.f1.length ≤ c1) (g1 : Kd.F k69 W ok A1 x.f1.length x.f1) : Kd.FK k67 W ok x [.int .i64 x.f0, .slice A1 x.f1.length c1, .string x.f2, .int .i64 x.f3] := fun W2 hW => k67_mk W2 x l1 (g1 W2 hW)
def rd_T67 (xs : List S67) (i : Int) : S67 := xs.getD i.toNat z67
theorem at_T67 {w : World} {A : Option Addr} {n : Nat} {xs : List S67} (h : Kd.C k67 w A n xs) (i : Int) (h0 : 0 ≤ i) (h1 : i < n) : ∃ ad A1 c1, A = some ad ∧ w.cell? (ad.add (i.toNat * 4)) = some (.int .i64 (rd_T67 xs i).f0) ∧ w.cell? ⟨(ad.add (i.toNat * 4)).block, (ad.add (i.toNat * 4)).off + 1, none⟩ = some (.slice A1 (rd_T67 xs i).f1.length c1) ∧ w.cell? ⟨(ad.add (i.toNat * 4)).block, (ad.add (i.toNat * 4)).off + 2, none⟩ = some (.string (rd_T67 xs i).f2) ∧ w.cell? ⟨(ad.add (i.toNat * 4)).block, (ad.add (i.toNat * 4)).off + 3, none⟩ = some (.int .i64 (rd_T67 xs i).f3) ∧ (rd_T67 xs i).f1.length ≤ c1 ∧ k69.C w A1 (rd_T67 xs i).f1.length (rd_T67 xs i).f1 := by
  obtain ⟨ad, c, e, _, hK, hc0⟩ := Kd.C_get h z67 i h0 h1
  have hc : ∀ j u, c[j]? = some u → w.cell? (ad.add (i.toNat * 4 + j)) = some u := hc0
  obtain ⟨A1, c1, rfl, l1, g1⟩ := k67_open hK
  exact ⟨ad, A1, c1, e, hc 0 _ rfl, by rw [← add_field _ _ 1 (by omega)]; exact hc 1 _ rfl, by rw [← add_field _ _ 2 (by omega)]; exact hc 2 _ rfl, by rw [← add_field _ _ 3 (by omega)]; exact hc 3 _ rfl, l1, g1⟩

def rd_L12 (xs : List (List S67)) (i : Int) : (List S67) := xs.getD i.toNat ([] : List S67)
theorem at_L12 {w : World} {A : Option Addr} {n : Nat} {xs : List (List S67)} (h : Kd.C (Kd.slice 67 k67) w A n xs) (i : Int) (h0 : 0 ≤ i) (h1 : i < n) : ∃ ad A0 c0, A = some ad ∧ w.cell? (ad.add i.toNat) = some (.slice A0 (rd_L12 xs i).length c0) ∧ (rd_L12 xs i).length ≤ c0 ∧ k67.C w A0 (rd_L12 xs i).length (rd_L12 xs i) := by
  obtain ⟨ad, c, e, _, hK, hc0⟩ := Kd.C_get h ([] : List S67) i h0 h1
  have hc : ∀ j u, c[j]? = some u → w.cell? (ad.add (i.toNat * 1 + j)) = some u := hc0
  obtain ⟨A0, c0, rfl, l0, g0⟩ := hK
  exact ⟨ad, A0, c0, e, by have hq := hc 0 _ rfl; rwa [Nat.mul_one, Nat.add_zero] at hq, l0, g0⟩

/-! #### struct type 62 -/
structure S62 where
  f0 : Int
  f1 : (List S69)
def z62 : S62 := ⟨(0 : Int), ([] : List S69)⟩
def k62 : Kd S62 := Kd.iso (Kd.pair (Kd.int .i64) (Kd.slice 69 k69)) (fun x : S62 => (x.f0, x.f1))
theorem k62_heap : Kd.Heap k62 := Kd.heap_iso _ (Kd.heap_pair (Kd.heap_int .i64) (Kd.heap_slice 69 k69_heap))
theorem k62_open {w : World} {x : S62} {cs : List Value} (h : k62.K w x cs) : ∃ A1 c1, cs = [.int .i64 x.f0, .slice A1 x.f1.length c1] ∧ x.f1.length ≤ c1 ∧ k69.C w A1 x.f1.length x.f1 := by
  obtain ⟨_, _, rfl, rfl, ⟨A1, c1, rfl, l1, g1⟩⟩ := h
  exact ⟨A1, c1, rfl, l1, g1⟩
theorem k62_openM {w : World} {base : Nat} {ok : Nat → Prop} {x : S62} {cs : List Value} (h : k62.M w base ok x cs) : ∃ v1, cs = [.int .i64 x.f0, v1] ∧ k69.R 69 w base ok v1 x.f1 := by
  obtain ⟨_, _, rfl, rfl, ⟨v1, rfl, g1⟩⟩ := h
  exact ⟨v1, rfl, g1⟩
theorem k62_mk (w : World) (x : S62) {A1 : Option Addr} {c1 : Nat} (l1 : x.f1.length ≤ c1) (g1 : k69.C w A1 x.f1.length x.f1) : k62.K w x [.int .i64 x.f0, .slice A1 x.f1.length c1] := ⟨[.int .i64 x.f0], [.slice A1 x.f1.length c1], rfl, rfl, ⟨A1, c1, rfl, l1, g1⟩⟩
theorem k62_mkM (w : World) (base : Nat) (ok : Nat → Prop) (x : S62) {v1 : Value} (g1 : k69.R 69 w base ok v1 x.f1) : k62.M w base ok x [.int .i64 x.f0, v1] := ⟨[.int .i64 x.f0], [v1], rfl, rfl, ⟨v1, rfl, g1⟩⟩
theorem k62_openF {W : World} {ok : Nat → Prop} {x : S62} {cs : List Value} (h : Kd.FK k62 W ok x cs) : ∃ A1 c1, cs = [.int .i64 x.f0, .slice A1 x.f1.length c1] ∧ x.f1.length ≤ c1 ∧ Kd.F k69 W ok A1 x.f1.length x.f1 := by
  obtain ⟨A1, c1, rfl, l1, _⟩ := k62_open (Kd.FK_now h)
  exact ⟨A1, c1, rfl, l1, (fun W' hW => by obtain ⟨A1_, c1_, he, l1_, g1_⟩ := k62_open (h W' hW); injection (Option.some.inj (show some (Value.slice A1 x.f1.length c1) = some (Value.slice A1_ x.f1.length c1_) from congrArg (fun l => l[1]?) he)) with ha_ _ _; rw [ha_]; exact g1_)⟩
theorem k62_mkF (W : World) (ok : Nat → Prop) (x : S62) {A1 : Option Addr} {c1 : Nat} (l1 : x.f1.length ≤ c1) (g1 : Kd.F k69 W ok A1 x.f1.length x.f1) : Kd.FK k62 W ok x [.int .i64 x.f0, .slice A1 x.f1.length c1] := fun W2 hW => k62_mk W2 x l1 (g1 W2 hW)
def rd_T62 (xs : List S62) (i : Int) : S62 := xs.getD i.toNat z62
theorem at_T62 {w : World} {A : Option Addr} {n : Nat} {xs : List S62} (h : Kd.C k62 w A n xs) (i : Int) (h0 : 0 ≤ i) (h1 : i < n) : ∃ ad A1 c1, A = some ad ∧ w.cell? (ad.add (i.toNat * 2)) = some (.int .i64 (rd_T62 xs i).f0) ∧ w.cell? ⟨(ad.add (i.toNat * 2)).block, (ad.add (i.toNat * 2)).off + 1, none⟩ = some (.slice A1 (rd_T62 xs i).f1.length c1) ∧ (rd_T62 xs i).f1.length ≤ c1 ∧ k69.C w A1 (rd_T62 xs i).f1.length (rd_T62 xs i).f1 := by
  obtain ⟨ad, c, e, _, hK, hc0⟩ := Kd.C_get h z62 i h0 h1
  have hc : ∀ j u, c[j]? = some u → w.cell? (ad.add (i.toNat * 2 + j)) = some u := hc0
  obtain ⟨A1, c1, rfl, l1, g1⟩ := k62_open hK
  exact ⟨ad, A1, c1, e, hc 0 _ rfl, by rw [← add_field _ _ 1 (by omega)]; exact hc 1 _ rfl, l1, g1⟩

def rd_L14 (xs : List (List S62)) (i : Int) : (List S62) := xs.getD i.toNat ([] : List S62)
theorem at_L14 {w : World} {A : Option Addr} {n : Nat} {xs : List (List S62)} (h : Kd.C (Kd.slice 62 k62) w A n xs) (i : Int) (h0 : 0 ≤ i) (h1 : i < n) : ∃ ad A0 c0, A = some ad ∧ w.cell? (ad.add i.toNat) = some (.slice A0 (rd_L14 xs i).length c0) ∧ (rd_L14 xs i).length ≤ c0 ∧ k62.C w A0 (rd_L14 xs i).length (rd_L14 xs i) := by
  obtain ⟨ad, c, e, _, hK, hc0⟩ := Kd.C_get h ([] : List S62) i h0 h1
  have hc : ∀ j u, c[j]? = some u → w.cell? (ad.add (i.toNat * 1 + j)) = some u := hc0
  obtain ⟨A0, c0, rfl, l0, g0⟩ := hK
  exact ⟨ad, A0, c0, e, by have hq := hc 0 _ rfl; rwa [Nat.mul_one, Nat.add_zero] at hq, l0, g0⟩

def rd_L15 (xs : List (List Int)) (i : Int) : (List Int) := xs.getD i.toNat ([] : List Int)
theorem at_L15 {w : World} {A : Option Addr} {n : Nat} {xs : List (List Int)} (h : Kd.C (Kd.slice 3 (Kd.int .i64)) w A n xs) (i : Int) (h0 : 0 ≤ i) (h1 : i < n) : ∃ ad A0 c0, A = some ad ∧ w.cell? (ad.add i.toNat) = some (.slice A0 (rd_L15 xs i).length c0) ∧ (rd_L15 xs i).length ≤ c0 ∧ (Kd.int .i64).C w A0 (rd_L15 xs i).length (rd_L15 xs i) := by
  obtain ⟨ad, c, e, _, hK, hc0⟩ := Kd.C_get h ([] : List Int) i h0 h1
  have hc : ∀ j u, c[j]? = some u → w.cell? (ad.add (i.toNat * 1 + j)) = some u := hc0
  obtain ⟨A0, c0, rfl, l0, g0⟩ := hK
  exact ⟨ad, A0, c0, e, by have hq := hc 0 _ rfl; rwa [Nat.mul_one, Nat.add_zero] at hq, l0, g0⟩

/-! #### struct type 100 -/
structure S100 where
  f0 : Int
  f1 : (List Int)
  f2 : Int
def z100 : S100 := ⟨(0 : Int), ([] : List Int), (0 : Int)⟩
def k100 : Kd S100 := Kd.iso (Kd.pair (Kd.int .i64) (Kd.pair (Kd.slice 3 (Kd.int .i64)) (Kd.int .i64))) (fun x : S100 => (x.f0, x.f1, x.f2))
theorem k100_heap : Kd.Heap k100 := Kd.heap_iso _ (Kd.heap_pair (Kd.heap_int .i64) (Kd.heap_pair (Kd.heap_slice 3 (Kd.heap_int .i64)) (Kd.heap_int .i64)))
theorem k100_open {w : World} {x : S100} {cs : List Value} (h : k100.K w x cs) : ∃ A1 c1, cs = [.int .i64 x.f0, .slice A1 x.f1.length c1, .int .i64 x.f2] ∧ x.f1.length ≤ c1 ∧ (Kd.int .i64).C w A1 x.f1.length x.f1 := by
  obtain ⟨_, _, rfl, rfl, ⟨_, _, rfl, ⟨A1, c1, rfl, l1, g1⟩, rfl⟩⟩ := h
  exact ⟨A1, c1, rfl, l1, g1⟩
theorem k100_openM {w : World} {base : Nat} {ok : Nat → Prop} {x : S100} {cs : List Value} (h : k100.M w base ok x cs) : ∃ v1, cs = [.int .i64 x.f0, v1, .int .i64 x.f2] ∧ (Kd.int .i64).R 3 w base ok v1 x.f1 := by
  obtain ⟨_, _, rfl, rfl, ⟨_, _, rfl, ⟨v1, rfl, g1⟩, rfl⟩⟩ := h
  exact ⟨v1, rfl, g1⟩
theorem k100_mk (w : World) (x : S100) {A1 : Option Addr} {c1 : Nat} (l1 : x.f1.length ≤ c1) (g1 : (Kd.int .i64).C w A1 x.f1.length x.f1) : k100.K w x [.int .i64 x.f0, .slice A1 x.f1.length c1, .int .i64 x.f2] := ⟨[.int .i64 x.f0], [.slice A1 x.f1.length c1, .int .i64 x.f2], rfl, rfl, ⟨[.slice A1 x.f1.length c1], [.int .i64 x.f2], rfl, ⟨A1, c1, rfl, l1, g1⟩, rfl⟩⟩
theorem k100_mkM (w : World) (base : Nat) (ok : Nat → Prop) (x : S100) {v1 : Value} (g1 : (Kd.int .i64).R 3 w base ok v1 x.f1) : k100.M w base ok x [.int .i64 x.f0, v1, .int .i64 x.f2] := ⟨[.int .i64 x.f0], [v1, .int .i64 x.f2], rfl, rfl, ⟨[v1], [.int .i64 x.f2], rfl, ⟨v1, rfl, g1⟩, rfl⟩⟩
theorem k100_openF {W : World} {ok : Nat → Prop} {x : S100} {cs : List Value} (h : Kd.FK k100 W ok x cs) : ∃ A1 c1, cs = [.int .i64 x.f0, .slice A1 x.f1.length c1, .int .i64 x.f2] ∧ x.f1.length ≤ c1 ∧ Kd.F (Kd.int .i64) W ok A1 x.f1.length x.f1 := by
  obtain ⟨A1, c1, rfl, l1, _⟩ := k100_open (Kd.FK_now h)
  exact ⟨A1, c1, rfl, l1, (fun W' hW => by obtain ⟨A1_, c1_, he, l1_, g1_⟩ := k100_open (h W' hW); injection (Option.some.inj (show some (Value.slice A1 x.f1.length c1) = some (Value.slice A1_ x.f1.length c1_) from congrArg (fun l => l[1]?) he)) with ha_ _ _; rw [ha_]; exact g1_)⟩
theorem k100_mkF (W : World) (ok : Nat → Prop) (x : S100) {A1 : Option Addr} {c1 : Nat} (l1 : x.f1.length ≤ c1) (g1 : Kd.F (Kd.int .i64) W ok A1 x.f1.length x.f1) : Kd.FK k100 W ok x [.int .i64 x.f0, .slice A1 x.f1.length c1, .int .i64 x.f2] := fun W2 hW => k100_mk W2 x l1 (g1 W2 hW)
def rd_T100 (xs : List S100) (i : Int) : S100 := xs.getD i.toNat z100
theorem at_T100 {w : World} {A : Option Addr} {n : Nat} {xs : List S100} (h : Kd.C k100 w A n xs) (i : Int) (h0 : 0 ≤ i) (h1 : i < n) : ∃ ad A1 c1, A = some ad ∧ w.cell? (ad.add (i.toNat * 3)) = some (.int .i64 (rd_T100 xs i).f0) ∧ w.cell? ⟨(ad.add (i.toNat * 3)).block, (ad.add (i.toNat * 3)).off + 1, none⟩ = some (.slice A1 (rd_T100 xs i).f1.length c1) ∧ w.cell? ⟨(ad.add (i.toNat * 3)).block, (ad.add (i.toNat * 3)).off + 2, none⟩ = some (.int .i64 (rd_T100 xs i).f2) ∧ (rd_T100 xs i).f1.length ≤ c1 ∧ (Kd.int .i64).C w A1 (rd_T100 xs i).f1.length (rd_T100 xs i).f1 := by
  obtain ⟨ad, c, e, _, hK, hc0⟩ := Kd.C_get h z100 i h0 h1
  have hc : ∀ j u, c[j]? = some u → w.cell? (ad.add (i.toNat * 3 + j)) = some u := hc0
  obtain ⟨A1, c1, rfl, l1, g1⟩ := k100_open hK
  exact ⟨ad, A1, c1, e, hc 0 _ rfl, by rw [← add_field _ _ 1 (by omega)]; exact hc 1 _ rfl, by rw [← add_field _ _ 2 (by omega)]; exact hc 2 _ rfl, l1, g1⟩

def rd_L17 (xs : List (List S100)) (i : Int) : (List S100) := xs.getD i.toNat ([] : List S100)
theorem at_L17 {w : World} {A : Option Addr} {n : Nat} {xs : List (List S100)} (h : Kd.C (Kd.slice 100 k100) w A n xs) (i : Int) (h0 : 0 ≤ i) (h1 : i < n) : ∃ ad A0 c0, A = some ad ∧ w.cell? (ad.add i.toNat) = some (.slice A0 (rd_L17 xs i).length c0) ∧ (rd_L17 xs i).length ≤ c0 ∧ k100.C w A0 (rd_L17 xs i).length (rd_L17 xs i) := by
  obtain ⟨ad, c, e, _, hK, hc0⟩ := Kd.C_get h ([] : List S100) i h0 h1
  have hc : ∀ j u, c[j]? = some u → w.cell? (ad.add (i.toNat * 1 + j)) = some u := hc0
  obtain ⟨A0, c0, rfl, l0, g0⟩ := hK
  exact ⟨ad, A0, c0, e, by have hq := hc 0 _ rfl; rwa [Nat.mul_one, Nat.add_zero] at hq, l0, g0⟩

/-! #### struct type 90 -/
structure S90 where
  f0 : (List Int)
  f1 : Int
def z90 : S90 := ⟨([] : List Int), (0 : Int)⟩
def k90 : Kd S90 := Kd.iso (Kd.pair (Kd.slice 5 (Kd.int .u8)) (Kd.int .i64)) (fun x : S90 => (x.f0, x.f1))
theorem k90_heap : Kd.Heap k90 := Kd.heap_iso _ (Kd.heap_pair (Kd.heap_slice 5 (Kd.heap_int .u8)) (Kd.heap_int .i64))
theorem k90_open {w : World} {x : S90} {cs : List Value} (h : k90.K w x cs) : ∃ A0 c0, cs = [.slice A0 x.f0.length c0, .int .i64 x.f1] ∧ x.f0.length ≤ c0 ∧ (Kd.int .u8).C w A0 x.f0.length x.f0 := by
  obtain ⟨_, _, rfl, ⟨A0, c0, rfl, l0, g0⟩, rfl⟩ := h
  exact ⟨A0, c0, rfl, l0, g0⟩
theorem k90_openM {w : World} {base : Nat} {ok : Nat → Prop} {x : S90} {cs : List Value} (h : k90.M w base ok x cs) : ∃ v0, cs = [v0, .int .i64 x.f1] ∧ (Kd.int .u8).R 5 w base ok v0 x.f0 := by
  obtain ⟨_, _, rfl, ⟨v0, rfl, g0⟩, rfl⟩ := h
  exact ⟨v0, rfl, g0⟩
theorem k90_mk (w : World) (x : S90) {A0 : Option Addr} {c0 : Nat} (l0 : x.f0.length ≤ c0) (g0 : (Kd.int .u8).C w A0 x.f0.length x.f0) : k90.K w x [.slice A0 x.f0.length c0, .int .i64 x.f1] := ⟨[.slice A0 x.f0.length c0], [.int .i64 x.f1], rfl, ⟨A0, c0, rfl, l0, g0⟩, rfl⟩
theorem k90_mkM (w : World) (base : Nat) (ok : Nat → Prop) (x : S90) {v0 : Value} (g0 : (Kd.int .u8).R 5 w base ok v0 x.f0) : k90.M w base ok x [v0, .int .i64 x.f1] := ⟨[v0], [.int .i64 x.f1], rfl, ⟨v0, rfl, g0⟩, rfl⟩
theorem k90_openF {W : World} {ok : Nat → Prop} {x : S90} {cs : List Value} (h : Kd.FK k90 W ok x cs) : ∃ A0 c0, cs = [.slice A0 x.f0.length c0, .int .i64 x.f1] ∧ x.f0.length ≤ c0 ∧ Kd.F (Kd.int .u8) W ok A0 x.f0.length x.f0 := by
  obtain ⟨A0, c0, rfl, l0, _⟩ := k90_open (Kd.FK_now h)
  exact ⟨A0, c0, rfl, l0, (fun W' hW => by obtain ⟨A0_, c0_, he, l0_, g0_⟩ := k90_open (h W' hW); injection (Option.some.inj (show some (Value.slice A0 x.f0.length c0) = some (Value.slice A0_ x.f0.length c0_) from congrArg (fun l => l[0]?) he)) with ha_ _ _; rw [ha_]; exact g0_)⟩
theorem k90_mkF (W : World) (ok : Nat → Prop) (x : S90) {A0 : Option Addr} {c0 : Nat} (l0 : x.f0.length ≤ c0) (g0 : Kd.F (Kd.int .u8) W ok A0 x.f0.length x.f0) : Kd.FK k90 W ok x [.slice A0 x.f0.length c0, .int .i64 x.f1] := fun W2 hW => k90_mk W2 x l0 (g0 W2 hW)
def rd_T90 (xs : List S90) (i : Int) : S90 := xs.getD i.toNat z90
theorem at_T90 {w : World} {A : Option Addr} {n : Nat} {xs : List S90} (h : Kd.C k90 w A n xs) (i : Int) (h0 : 0 ≤ i) (h1 : i < n) : ∃ ad A0 c0, A = some ad ∧ w.cell? (ad.add (i.toNat * 2)) = some (.slice A0 (rd_T90 xs i).f0.length c0) ∧ w.cell? ⟨(ad.add (i.toNat * 2)).block, (ad.add (i.toNat * 2)).off + 1, none⟩ = some (.int .i64 (rd_T90 xs i).f1) ∧ (rd_T90 xs i).f0.length ≤ c0 ∧ (Kd.int .u8).C w A0 (rd_T90 xs i).f0.length (rd_T90 xs i).f0 := by
  obtain ⟨ad, c, e, _, hK, hc0⟩ := Kd.C_get h z90 i h0 h1
  have hc : ∀ j u, c[j]? = some u → w.cell? (ad.add (i.toNat * 2 + j)) = some u := hc0
  obtain ⟨A0, c0, rfl, l0, g0⟩ := k90_open hK
  exact ⟨ad, A0, c0, e, hc 0 _ rfl, by rw [← add_field _ _ 1 (by omega)]; exact hc 1 _ rfl, l0, g0⟩

/-! #### struct type 95 -/
structure S95 where
  f0 : S90
  f1 : (List S69)
def z95 : S95 := ⟨z90, ([] : List S69)⟩
def k95 : Kd S95 := Kd.iso (Kd.pair k90 (Kd.slice 69 k69)) (fun x : S95 => (x.f0, x.f1))
theorem k95_heap : Kd.Heap k95 := Kd.heap_iso _ (Kd.heap_pair k90_heap (Kd.heap_slice 69 k69_heap))
theorem k95_open {w : World} {x : S95} {cs : List Value} (h : k95.K w x cs) : ∃ A0 c0 A2 c2, cs = [.slice A0 x.f0.f0.length c0, .int .i64 x.f0.f1, .slice A2 x.f1.length c2] ∧ x.f0.f0.length ≤ c0 ∧ (Kd.int .u8).C w A0 x.f0.f0.length x.f0.f0 ∧ x.f1.length ≤ c2 ∧ k69.C w A2 x.f1.length x.f1 := by
  obtain ⟨_, _, rfl, s0, ⟨A2, c2, rfl, l2, g2⟩⟩ := h
  obtain ⟨A0, c0, rfl, l0, g0⟩ := k90_open s0
  exact ⟨A0, c0, A2, c2, rfl, l0, g0, l2, g2⟩
theorem k95_openM {w : World} {base : Nat} {ok : Nat → Prop} {x : S95} {cs : List Value} (h : k95.M w base ok x cs) : ∃ v0 v2, cs = [v0, .int .i64 x.f0.f1, v2] ∧ (Kd.int .u8).R 5 w base ok v0 x.f0.f0 ∧ k69.R 69 w base ok v2 x.f1 := by
  obtain ⟨_, _, rfl, s0, ⟨v2, rfl, g2⟩⟩ := h
  obtain ⟨v0, rfl, g0⟩ := k90_openM s0
  exact ⟨v0, v2, rfl, g0, g2⟩
theorem k95_mk (w : World) (x : S95) {A0 : Option Addr} {c0 : Nat} (l0 : x.f0.f0.length ≤ c0) (g0 : (Kd.int .u8).C w A0 x.f0.f0.length x.f0.f0) {A2 : Option Addr} {c2 : Nat} (l2 : x.f1.length ≤ c2) (g2 : k69.C w A2 x.f1.length x.f1) : k95.K w x [.slice A0 x.f0.f0.length c0, .int .i64 x.f0.f1, .slice A2 x.f1.length c2] := ⟨[.slice A0 x.f0.f0.length c0, .int .i64 x.f0.f1], [.slice A2 x.f1.length c2], rfl, (k90_mk w x.f0 l0 g0), ⟨A2, c2, rfl, l2, g2⟩⟩
theorem k95_mkM (w : World) (base : Nat) (ok : Nat → Prop) (x : S95) {v0 : Value} (g0 : (Kd.int .u8).R 5 w base ok v0 x.f0.f0) {v2 : Value} (g2 : k69.R 69 w base ok v2 x.f1) : k95.M w base ok x [v0, .int .i64 x.f0.f1, v2] := ⟨[v0, .int .i64 x.f0.f1], [v2], rfl, (k90_mkM w base ok x.f0 g0), ⟨v2, rfl, g2⟩⟩
theorem k95_openF {W : World} {ok : Nat → Prop} {x : S95} {cs : List Value} (h : Kd.FK k95 W ok x cs) : ∃ A0 c0 A2 c2, cs = [.slice A0 x.f0.f0.length c0, .int .i64 x.f0.f1, .slice A2 x.f1.length c2] ∧ x.f0.f0.length ≤ c0 ∧ Kd.F (Kd.int .u8) W ok A0 x.f0.f0.length x.f0.f0 ∧ x.f1.length ≤ c2 ∧ Kd.F k69 W ok A2 x.f1.length x.f1 := by
  obtain ⟨A0, c0, A2, c2, rfl, l0, _, l2, _⟩ := k95_open (Kd.FK_now h)
  exact ⟨A0, c0, A2, c2, rfl, l0, (fun W' hW => by obtain ⟨A0_, c0_, A2_, c2_, he, l0_, g0_, l2_, g2_⟩ := k95_open (h W' hW); injection (Option.some.inj (show some (Value.slice A0 x.f0.f0.length c0) = some (Value.slice A0_ x.f0.f0.length c0_) from congrArg (fun l => l[0]?) he)) with ha_ _ _; rw [ha_]; exact g0_), l2, (fun W' hW => by obtain ⟨A0_, c0_, A2_, c2_, he, l0_, g0_, l2_, g2_⟩ := k95_open (h W' hW); injection (Option.some.inj (show some (Value.slice A2 x.f1.length c2) = some (Value.slice A2_ x.f1.length c2_) from congrArg (fun l => l[2]?) he)) with ha_ _ _; rw [ha_]; exact g2_)⟩
theorem k95_mkF (W : World) (ok : Nat → Prop) (x : S95) {A0 : Option Addr} {c0 : Nat} (l0 : x.f0.f0.length ≤ c0) (g0 : Kd.F (Kd.int .u8) W ok A0 x.f0.f0.length x.f0.f0) {A2 : Option Addr} {c2 : Nat} (l2 : x.f1.length ≤ c2) (g2 : Kd.F k69 W ok A2 x.f1.length x.f1) : Kd.FK k95 W ok x [.slice A0 x.f0.f0.length c0, .int .i64 x.f0.f1, .slice A2 x.f1.length c2] := fun W2 hW => k95_mk W2 x l0 (g0 W2 hW) l2 (g2 W2 hW)
def rd_T95 (xs : List S95) (i : Int) : S95 := xs.getD i.toNat z95
theorem at_T95 {w : World} {A : Option Addr} {n : Nat} {xs : List S95} (h : Kd.C k95 w A n xs) (i : Int) (h0 : 0 ≤ i) (h1 : i < n) : ∃ ad A0 c0 A2 c2, A = some ad ∧ w.cell? (ad.add (i.toNat * 3)) = some (.slice A0 (rd_T95 xs i).f0.f0.length c0) ∧ w.cell? ⟨(ad.add (i.toNat * 3)).block, (ad.add (i.toNat * 3)).off + 1, none⟩ = some (.int .i64 (rd_T95 xs i).f0.f1) ∧ w.cell? ⟨(ad.add (i.toNat * 3)).block, (ad.add (i.toNat * 3)).off + 2, none⟩ = some (.slice A2 (rd_T95 xs i).f1.length c2) ∧ (rd_T95 xs i).f0.f0.length ≤ c0 ∧ (Kd.int .u8).C w A0 (rd_T95 xs i).f0.f0.length (rd_T95 xs i).f0.f0 ∧ (rd_T95 xs i).f1.length ≤ c2 ∧ k69.C w A2 (rd_T95 xs i).f1.length (rd_T95 xs i).f1 := by
  obtain ⟨ad, c, e, _, hK, hc0⟩ := Kd.C_get h z95 i h0 h1
  have hc : ∀ j u, c[j]? = some u → w.cell? (ad.add (i.toNat * 3 + j)) = some u := hc0
  obtain ⟨A0, c0, A2, c2, rfl, l0, g0, l2, g2⟩ := k95_open hK
  exact ⟨ad, A0, c0, A2, c2, e, hc 0 _ rfl, by rw [← add_field _ _ 1 (by omega)]; exact hc 1 _ rfl, by rw [← add_field _ _ 2 (by omega)]; exact hc 2 _ rfl, l0, g0, l2, g2⟩

theorem eqA69 (d : Nat) (w : World) (x0 y0 : ByteArray) (x1 y1 : ByteArray) :
    (Op.equalIn (d + 2) 69 (.agg #[.string x0, .string x1]) (.agg #[.string y0, .string y1])).run Try.prog w = .ok (x0.toList == y0.toList && (x1.toList == y1.toList)) w := by
  refine eqA_of Try.underlying69 (by kernel_rfl) ?_
  refine eqf_cons (by rfl) (by go_simp; rfl) (by go_simp; rfl) (by go_simp) ?_
  exact eqf_last (by rfl) (by go_simp; rfl) (by go_simp; rfl) (by go_simp)
end Go.Proofs.Ytnjidfgjldkkcaa.Q
/- What a method may turn: blocks of some element types, from a number on. -/
namespace Go.Proofs.Ytnjidfgjldkkcaa.Q
open Go.RowKit Go.Proofs.YtnjidfgjldkkcaaW.PrintWords Go.Proofs.YtnjidfgjldkkcaaW.PrintLast Go.Proofs.YtnjidfgjldkkcaaW.PrintMore
/-- From w to w' at most blocks from B on, of the types T, have turned. -/
structure ModT (T : List Nat) (B : Nat) (w w' : World) : Prop where
  os : w'.os = w.os
  tape : w'.tape = w.tape
  output : w'.output = w.output
  size : w.heap.size ≤ w'.heap.size
  block : ∀ k, k < w.heap.size → w'.heap[k]? = w.heap[k]? ∨ (B ≤ k ∧ ∃ q, q ∈ T ∧ ∃ c, w.heap[k]? = some (.cells c q (0, 0)))
theorem ModT.refl (T : List Nat) (B : Nat) (w : World) : ModT T B w w := ⟨rfl, rfl, rfl, Nat.le_refl _, fun _ _ => .inl rfl⟩
theorem ModT.trans {T : List Nat} {B : Nat} {w w1 w2 : World} (h : ModT T B w w1) (k : ModT T B w1 w2) : ModT T B w w2 := by
  refine ⟨k.os.trans h.os, k.tape.trans h.tape, k.output.trans h.output, Nat.le_trans h.size k.size, fun i hi => ?_⟩
  rcases h.block i hi with h1 | h1
  · rcases k.block i (Nat.lt_of_lt_of_le hi h.size) with h2 | ⟨hB, q, hq, c, hc⟩
    · exact .inl (h2.trans h1)
    · exact .inr ⟨hB, q, hq, c, h1.symm.trans hc⟩
  · exact .inr h1
theorem ModT.weaken {T T' : List Nat} {B B' : Nat} {w w' : World} (h : ModT T B w w') (hT : ∀ q, q ∈ T → q ∈ T') (hB : B' ≤ B) : ModT T' B' w w' :=
  ⟨h.os, h.tape, h.output, h.size, fun k hk => (h.block k hk).imp id fun ⟨hb, q, hq, hc⟩ => ⟨Nat.le_trans hB hb, q, hT q hq, hc⟩⟩
theorem ModT.of_below {T : List Nat} {B : Nat} {w w' : World} (h : Below w.heap.size w w') : ModT T B w w' := ⟨h.os, h.tape, h.output, h.size, fun k hk => .inl (h.block k hk)⟩
theorem ModT.of_grown {T : List Nat} {B : Nat} {w w' : World} {row : Option Nat} (h : w.grownBy w' row) (hr : ∀ k, row = some k → B ≤ k ∧ ∃ q, q ∈ T ∧ ∃ c, w.heap[k]? = some (.cells c q (0, 0))) : ModT T B w w' := by
  refine ⟨h.os, h.tape, h.output, h.size, fun k hk => ?_⟩
  by_cases e : some k = row
  · exact .inr (hr k e.symm)
  · exact .inl (h.block k hk e)
theorem ModT.grown {T : List Nat} {B e : Nat} {α : Type} {d : Kd α} {w w' : World} {base : Nat} {ok : Nat → Prop} {v : Value} {xs : List α} (h : w.grownBy w' v.ownBlock) (hR : d.R e w base ok v xs) (he : e ∈ T) (hB : B ≤ base) : ModT T B w w' :=
  ModT.of_grown h fun k hk => ⟨Nat.le_trans hB (Kd.R_base hR k hk), e, he, Kd.R_typed hR k hk⟩
theorem ModT.set_ {T : List Nat} {B g t j : Nat} {w : World} {cs : Array Value} (h : w.heap[g]? = some (.cells cs t (0, 0))) (ht : t ∈ T) (hB : B ≤ g) (u : Value) : ModT T B w (w.setCell ⟨g, j, none⟩ u) := by
  refine ⟨rfl, rfl, rfl, by simp [World.setCell], fun k hk => ?_⟩
  by_cases e : k = g
  · subst e; exact .inr ⟨hB, t, ht, cs, h⟩
  · exact .inl (Below.heap_setCell w _ _ k e)
theorem ModT.alloc (T : List Nat) (B : Nat) (w : World) (o : Obj) : ModT T B w (w.alloc o) := ModT.of_below (below_alloc (Below.refl _ _) o)
theorem ModT.drewN (T : List Nat) (B : Nat) (w : World) (n : Nat) : ModT T B w (w.drewN n) := ModT.of_below (pw_below_drewN (Below.refl _ _) n)
theorem ModT.below {T : List Nat} {B : Nat} {w0 w w' : World} (h : ModT T B w w') (hb : Below B w0 w) (hB : B ≤ w.heap.size) : Below B w0 w' := by
  refine hb.trans ⟨h.os, h.tape, h.output, h.size, fun k hk => ?_⟩
  rcases h.block k (Nat.lt_of_lt_of_le hk hB) with h1 | h1
  · exact h1
  · exact absurd hk (Nat.not_lt.2 h1.1)
theorem ModT.own {T : List Nat} {B : Nat} {w w' : World} (h : ModT T B w w') (hB : B = w.heap.size) : Below w.heap.size w w' := hB ▸ h.below (Below.refl _ _) (Nat.le_of_eq hB)
theorem ModT.keep {T : List Nat} {B g t : Nat} {w w' : World} {cs : Array Value} (h : ModT T B w w') (hc : w.heap[g]? = some (.cells cs t (0, 0))) (ht : t ∉ T) : w'.heap[g]? = some (.cells cs t (0, 0)) := by
  rcases h.block g (blk_lt hc) with h1 | ⟨_, q, hq, c, h2⟩
  · exact h1.trans hc
  · rw [hc] at h2
    injection h2 with h2
    injection h2 with _ h2
    subst h2
    exact absurd hq ht
theorem ModT.keep' {T : List Nat} {B g : Nat} {w w' : World} {o : Obj} (h : ModT T B w w') (hc : w.heap[g]? = some o) (ht : ∀ q, q ∈ T → ∀ cs, o ≠ .cells cs q (0, 0)) : w'.heap[g]? = some o := by
  rcases h.block g (blk_lt hc) with h1 | ⟨_, q, hq, c, h2⟩
  · exact h1.trans hc
  · rw [hc] at h2
    injection h2 with h2
    exact absurd h2 (ht q hq c)
theorem ModT.R {T : List Nat} {B e : Nat} {α : Type} {d : Kd α} {w w' : World} {base : Nat} {ok : Nat → Prop} {v : Value} {xs : List α} (h : ModT T B w w') (hR : d.R e w base ok v xs) (hT : ∀ q, q ∈ e :: d.E → q ∉ T) : d.R e w' base ok v xs := by
  refine Kd.R_mono (Kd.R_move (Kd.R_bound hR) fun k hk => ?_) (fun k hk => hk.1)
  obtain ⟨_, _, hlt, q, hq, c, hc⟩ := hk
  rw [hc]
  exact h.keep hc (hT q hq)
theorem heap_set1 {w : World} {g t j : Nat} {cs : Array Value} {u : Value} (h : w.heap[g]? = some (.cells cs t (0, 0))) : (w.setCell ⟨g, j, none⟩ u).heap[g]? = some (.cells (cs.setIfInBounds j u) t (0, 0)) := blk_set h j u
end Go.Proofs.Ytnjidfgjldkkcaa.Q
/- bagnallkeep.Picked, walked. -/
namespace Go.Proofs.Ytnjidfgjldkkcaa.Q
open Go.RowKit Go.Proofs.YtnjidfgjldkkcaaW.PrintWords Go.Proofs.YtnjidfgjldkkcaaW.PrintLast Go.Proofs.YtnjidfgjldkkcaaW.PrintMore
/-- A number from 0 on, below n. -/
def pickF (a : Int) (n : Nat) : Nat := (if a.tmod (n : Int) < 0 then a.tmod (n : Int) + (n : Int) else a.tmod (n : Int)).toNat
theorem pickF_lt (a : Int) (n : Nat) (h0 : 0 < n) : pickF a n < n := by
  have hlo : -(n : Int) < a.tmod (n : Int) := Int.lt_tmod_of_pos a (by omega)
  have hhi : a.tmod (n : Int) < (n : Int) := Int.tmod_lt_of_pos a (by omega)
  unfold pickF
  split <;> omega
set_option maxRecDepth 100000 in
set_option maxHeartbeats 8000000 in
theorem picked_walk (a : Int) (n : Nat) (w : World) (h0 : 0 < n) (h1 : n ≤ 1000) :
    Calls Try.prog 64 #[.int .i64 a, .int .i64 (n : Int)] w fun e w' => e = .returned (.int .i64 ((pickF a n : Nat) : Int)) ∧ w = w' := by
  have hn : ¬ (n : Int) = 0 := by omega
  have hlo : -(n : Int) < a.tmod (n : Int) := Int.lt_tmod_of_pos a (by omega)
  have hhi : a.tmod (n : Int) < (n : Int) := Int.tmod_lt_of_pos a (by omega)
  have hw : IntKind.i64.wrap (a.tmod (n : Int)) = a.tmod (n : Int) := IntWalk.i64_in _ (by omega)
  go_enter Try.func64, Try.ntmps64
  by_cases hneg : a.tmod (n : Int) < 0
  · have hw2 : IntKind.i64.wrap (a.tmod (n : Int) + (n : Int)) = a.tmod (n : Int) + (n : Int) := IntWalk.i64_in _ (by omega)
    go_wp2
    go_ret
    unfold pickF
    rw [if_pos hneg, Int.toNat_of_nonneg (by omega)]
    exact ⟨rfl, rfl⟩
  · go_wp2
    go_ret
    unfold pickF
    rw [if_neg (by omega), Int.toNat_of_nonneg (by omega)]
    exact ⟨rfl, rfl⟩
end Go.Proofs.Ytnjidfgjldkkcaa.Q
/- slices.Delete and slices.Insert at rows, walked. -/
namespace Go.Proofs.Ytnjidfgjldkkcaa.Q
open Go.RowKit Go.Proofs.YtnjidfgjldkkcaaW.PrintWords Go.Proofs.YtnjidfgjldkkcaaW.PrintLast Go.Proofs.YtnjidfgjldkkcaaW.PrintMore
/-- The cells of rows. -/
def rowCells (xs : List S69) : List Value := xs.flatMap fun x => [.string x.f0, .string x.f1]
theorem rowCells_length : ∀ xs : List S69, (rowCells xs).length = xs.length * 2
  | [] => rfl
  | x :: t => by
    have := rowCells_length t
    unfold rowCells at this ⊢
    rw [List.flatMap_cons, List.length_append, this, List.length_cons]
    simp only [List.length_cons, List.length_nil]
    omega
theorem rowCells_append (xs ys : List S69) : rowCells (xs ++ ys) = rowCells xs ++ rowCells ys := by unfold rowCells; rw [List.flatMap_append]
theorem rowCells_take (xs : List S69) (i : Nat) (h : i ≤ xs.length) : rowCells (xs.take i) = (rowCells xs).take (i * 2) := by
  have e := congrArg rowCells (List.take_append_drop i xs)
  rw [rowCells_append] at e
  rw [← e]
  exact (List.take_left' (by rw [rowCells_length, List.length_take, Nat.min_eq_left h])).symm
theorem rowCells_drop (xs : List S69) (i : Nat) (h : i ≤ xs.length) : rowCells (xs.drop i) = (rowCells xs).drop (i * 2) := by
  have e := congrArg rowCells (List.take_append_drop i xs)
  rw [rowCells_append] at e
  rw [← e]
  exact (List.drop_left' (by rw [rowCells_length, List.length_take, Nat.min_eq_left h])).symm
theorem rowCells_one (xs : List S69) : ∀ v ∈ rowCells xs, v.oneCell' = true := by
  intro v hv
  unfold rowCells at hv
  rw [List.mem_flatMap] at hv
  obtain ⟨x, _, hx⟩ := hv
  simp only [List.mem_cons, List.not_mem_nil, or_false] at hx
  rcases hx with rfl | rfl <;> rfl
theorem reps_cells (w : World) (base : Nat) (ok : Nat → Prop) : ∀ xs : List S69, Reps (k69.M w base ok) 2 xs (rowCells xs)
  | [] => Reps.none _ _
  | x :: t => by
    have h : Reps (k69.M w base ok) 2 [x] [.string x.f0, .string x.f1] := ⟨rfl, fun j p hj => by
      rcases j with _ | j
      · obtain rfl : x = p := by simpa using hj
        exact k69_mkM w base ok x
      · simp at hj⟩
    exact Kd.reps_append h (reps_cells w base ok t)
theorem cells_reps {w : World} {base : Nat} {ok : Nat → Prop} : ∀ (xs : List S69) (cs : List Value), Reps (k69.M w base ok) 2 xs cs → cs = rowCells xs
  | [], cs, h => List.eq_nil_of_length_eq_zero (by simpa using h.1)
  | x :: t, cs, h => by
    have h0 := k69_openM (h.2 0 x rfl)
    rw [Nat.zero_mul, List.drop_zero] at h0
    have ih := cells_reps t (cs.drop 2) ⟨by rw [List.length_drop, h.1, List.length_cons]; omega, fun j p hj => by
      have := h.2 (j + 1) p (by simpa using hj)
      rw [List.drop_drop]
      rwa [show (j + 1) * 2 = 2 + j * 2 by omega] at this⟩
    have e : cs = cs.take 2 ++ cs.drop 2 := (List.take_append_drop 2 cs).symm
    rw [e, ih]
    show cs.take 2 ++ _ = _
    rw [show cs.take 2 = [Value.string x.f0, Value.string x.f1] from h0]
    rfl
theorem row_open {w : World} {base : Nat} {ok : Nat → Prop} {v : Value} {xs : List S69} (h : k69.R 69 w base ok v xs) (hp : 0 < xs.length) :
    ∃ g cap cur, v = .slice (some ⟨g, 0, none⟩) xs.length cap ∧ base ≤ g ∧ w.heap[g]? = some (.cells cur 69 (0, 0)) ∧ xs.length ≤ cap ∧ cap ≤ maxLen ∧ cur.size = cap * 2 ∧ cur.toList.take (xs.length * 2) = rowCells xs := by
  obtain ⟨_, inner, hown, hr⟩ := h
  have e := cells_reps xs inner hr
  subst e
  rcases hown.2 with ⟨_, h0⟩ | ⟨g, cap, cur, rfl, hb, hh, hn, hc, hs, ht⟩
  · omega
  · exact ⟨g, cap, cur, rfl, hb, hh, hn, hc, hs, ht⟩
theorem row_slice {w : World} {base n c g : Nat} {ok : Nat → Prop} {xs : List S69} (h : k69.R 69 w base ok (.slice (some ⟨g, 0, none⟩) n c) xs) :
    ∃ cur, base ≤ g ∧ w.heap[g]? = some (.cells cur 69 (0, 0)) ∧ n ≤ c ∧ c ≤ maxLen ∧ cur.size = c * 2 ∧ cur.toList.take (n * 2) = rowCells xs := by
  have hn := (Kd.R_reads' h).1
  obtain ⟨_, inner, hown, hr⟩ := h
  have e := cells_reps xs inner hr
  subst e
  rcases hown.2 with ⟨h0, _⟩ | ⟨g', cap, cur, hv, hb, hh, hn', hc, hs, ht⟩
  · cases h0
  · injection hv with hv1 hv2 hv3
    injection hv1 with hv1
    injection hv1 with hv1
    subst hv1 hv3
    exact ⟨cur, hb, hh, by omega, hc, hs, by rw [hn]; exact ht⟩
theorem row_mk {w : World} {base g cap n : Nat} {cur : Array Value} {xs : List S69} (hb : base ≤ g) (hh : w.heap[g]? = some (.cells cur 69 (0, 0))) (hn : xs.length = n) (hc : n ≤ cap) (hm : cap ≤ maxLen) (hs : cur.size = cap * 2) (ht : cur.toList.take (n * 2) = rowCells xs) :
    k69.R 69 w base (fun _ => True) (.slice (some ⟨g, 0, none⟩) n cap) xs := by
  subst hn
  exact ⟨fun _ _ => trivial, rowCells xs, ⟨rowCells_length xs, .inr ⟨g, cap, cur, rfl, hb, hh, hc, hm, hs, ht⟩⟩, reps_cells _ _ _ xs⟩
theorem run_copy_cellsN {P : Program} (w : World) (dT sT ty elem : TypeId) (b o dLen dCap : Nat) (a : Addr) (sLen sCap sz : Nat) (cs : List Value)
    (hu : P.underlying dT = some (.slice elem)) (hs : (P.info? elem).map (·.size) = some sz) (hn : cs.length = Nat.min sLen dLen * sz)
    (hsrc : ∀ j v, cs[j]? = some v → w.cell? (a.add j) = some v) (hc : ∀ j, j < cs.length → (w.cell? ⟨b, o + j, none⟩).isSome = true) (hf : ∀ j, j < cs.length → w.frozen? ⟨b, o + j, none⟩ = false) (h1 : ∀ v ∈ cs, v.oneCell' = true) :
    (Builtin.copy_ #[dT, sT] ty #[.slice (some ⟨b, o, none⟩) dLen dCap, .slice (some a) sLen sCap]).run P w = .ok (goInt (Nat.min sLen dLen)) (w.setCells b o cs) := by
  have hl := run_loadCells_list (P := P) w a cs hsrc
  have hst := run_storeCells_cells (P := P) b o cs 0 w (by simpa using hc) (by simpa using hf) h1
  cases hq : P.info? elem with
  | none => simp [hq] at hs
  | some i =>
    have hi : i.size = sz := by simpa [hq] using hs
    simp [Builtin.copy_, run_underlying hu, Builtin.lenOf, Builtin.firstCells, sizeOf, typeInfo, hq, hi, ← hn, hl, hst]
theorem run_clear_rows {P : Program} (w : World) (t e ty : TypeId) (z : Value) (ht : P.underlying t = some (.slice e)) (hv : ∀ w, (zeroValue e).run P w = .ok z w) (b o n c : Nat) (hn : 0 < n)
    (hc : ∀ j, j < (Builtin.zeroCells z.cells n).toList.length → (w.cell? ⟨b, o + j, none⟩).isSome = true) (hf : ∀ j, j < (Builtin.zeroCells z.cells n).toList.length → w.frozen? ⟨b, o + j, none⟩ = false) (h1 : ∀ v ∈ (Builtin.zeroCells z.cells n).toList, v.oneCell' = true) :
    (Builtin.clear_ #[t] ty #[.slice (some ⟨b, o, none⟩) n c]).run P w = .ok (.tuple #[]) (w.setCells b o (Builtin.zeroCells z.cells n).toList) := by
  have hst := run_storeCells_cells (P := P) b o (Builtin.zeroCells z.cells n).toList 0 w (by simpa using hc) (by simpa using hf) h1
  simp only [Nat.add_zero] at hst
  obtain ⟨m, rfl⟩ : ∃ m, n = m + 1 := ⟨n - 1, by omega⟩
  simp [Builtin.clear_, run_underlying ht, hv, hst]
/-- How what changes rows of one's own ends. -/
def RowsPost (base : Nat) (w : World) (ys : List S69) (e : Ending) (w' : World) : Prop := ∃ v', e = .returned v' ∧ k69.R 69 w' base (fun _ => True) v' ys ∧ ModT [69] base w w'
theorem setCells_mod {w : World} {g base o : Nat} {cur : Array Value} (vs : List Value) (hh : w.heap[g]? = some (.cells cur 69 (0, 0))) (hb : base ≤ g) : ModT [69] base w (w.setCells g o vs) := by
  obtain ⟨s1, s2, s3, s4⟩ := setCells_same g vs o w
  refine ⟨s1, s2, s3, by rw [s4]; exact Nat.le_refl _, fun k hk => ?_⟩
  by_cases e : k = g
  · subst e; exact .inr ⟨hb, 69, by simp, cur, hh⟩
  · exact .inl (setCells_far vs o k e)
set_option maxRecDepth 100000 in
set_option maxHeartbeats 4000000 in
theorem delete_walk (base : Nat) (v : Value) (xs : List S69) (i : Nat) (w : World) (hR : k69.R 69 w base (fun _ => True) v xs) (hi : i < xs.length) (hB : base ≤ w.heap.size) (hl : xs.length ≤ 1000000) :
    Calls Try.prog 70 #[v, .int .i64 (i : Int), .int .i64 ((i + 1 : Nat) : Int)] w (RowsPost base w (xs.eraseIdx i)) := by
  obtain ⟨g, c, cur, rfl, hg, hh, hn, hm, hs, ht⟩ := row_open hR (by omega)
  have HR := Aside0.mk hR
  obtain ⟨m, hmm⟩ : ∃ m, xs.length = m + 1 := ⟨xs.length - 1, by omega⟩
  rw [hmm] at HR hn hl ⊢
  unfold maxLen at hm
  have him : i ≤ m := by omega
  have hcm : ¬ c = m := by omega
  have hic : i ≤ c := by omega
  have him1 : i ≤ m + 1 := by omega
  have h01 : (0 : Int) ≤ (i : Int) + 1 := by omega
  have HH := Aside0.mk hh
  have HG := Aside0.mk hg
  have HBs := Aside0.mk hB
  clear hR ht hs hi hh hg hB
  replace hmm := Aside0.mk hmm
  go_enter Try.func70, Try.ntmps70
  go_wp2
  go_region_law (refine Kd.R_delete_step k69 (w0 := w) base (by simp [Region.wanted]) (.tmp 22) (.tmp 25) 24 69 rfl Try.underlying24 (by kernel_rfl) (g := g) (n := m + 1) (c := c) (k := i) (m := m - i) (xs := xs) (ok := fun _ => True) rfl rfl (by show _ = (if c = i + 1 then _ else some ((⟨g, 0, none⟩ : Addr).add ((i + 1) * 2))); rw [add_plain]) (by omega) (by exact Kd.R_drewN HR.out _) (by omega) (by exact pw_below_drewN (Below.refl _ _) _) HBs.out ?_; intro w1 ho hb hg; have HO := Aside0.mk ho; have HB := Aside0.mk hb; have HG1 := Aside0.mk hg; clear ho hb hg)
  obtain ⟨cur1, k1, k2, k3, k4, k5, k6⟩ := row_slice HO.out
  have hz69 : ∀ w, (zeroValue 69).run Try.prog w = .ok (.agg #[.string ⟨#[]⟩, .string ⟨#[]⟩]) w := fun w => by
    obtain ⟨i0, hi0, hz⟩ := Option.map_eq_some_iff.1 info69
    simp only [Prod.mk.injEq] at hz
    simp [zeroValue, typeInfo, hi0, hz.1]
  have hz : (Builtin.zeroCells (Value.agg #[Value.string ⟨#[]⟩, Value.string ⟨#[]⟩]).cells 1).toList = [Value.string ⟨#[]⟩, Value.string ⟨#[]⟩] := by kernel_rfl
  have hcl : ∀ ty, (Builtin.clear_ #[24] ty #[.slice (some ⟨g, m * 2, none⟩) 1 (c - m)]).run Try.prog w1 = .ok (.tuple #[]) (w1.setCells g (m * 2) [.string ⟨#[]⟩, .string ⟨#[]⟩]) := fun ty => by
    have := run_clear_rows w1 24 69 ty _ Try.underlying24 hz69 g (m * 2) 1 (c - m) (by omega) (fun j hj => by
      rw [hz] at hj
      have hj' : j < 2 := hj
      rw [blk_cell k2, Array.getElem?_eq_getElem (by omega)]; rfl) (fun j _ => blk_frozen k2 _) (fun v hv => by
      rw [hz] at hv
      simp only [List.mem_cons, List.not_mem_nil, or_false] at hv
      rcases hv with rfl | rfl <;> rfl)
    rwa [hz] at this
  have hmod : Aside0 (ModT [69] base w w1) := ⟨⟨HG1.out.os, HG1.out.tape, HG1.out.output, HG1.out.size, fun k hk => by
    by_cases e : k = g
    · subst e; exact .inr ⟨HG.out, 69, by simp, cur, HH.out⟩
    · exact .inl (HG1.out.block k hk (fun he => e (by injection he)))⟩⟩
  have hfin : Aside0 (RowsPost base w (xs.eraseIdx i) (.returned (.slice (some ⟨g, 0, none⟩) m c)) (w1.setCells g (m * 2) [.string ⟨#[]⟩, .string ⟨#[]⟩])) := ⟨by
    obtain ⟨cur2, j1, j2, j3⟩ := setCells_row [Value.string ⟨#[]⟩, Value.string ⟨#[]⟩] (m * 2) w1 cur1 k2 (by simp; omega)
    have hel : (xs.eraseIdx i).length = m := by rw [List.length_eraseIdx_of_lt (by have := hmm.out; omega), hmm.out]; omega
    refine ⟨_, rfl, row_mk HG.out j1 hel (by omega) (by unfold maxLen; omega) (by rw [j2, k5]) ?_, hmod.out.trans (setCells_mod _ k2 HG.out)⟩
    rw [j3, List.append_assoc, List.take_left' (by rw [List.length_take, Array.length_toList]; omega)]
    have := k6
    rwa [Nat.add_sub_cancel] at this⟩
  clear k1 k2 k3 k4 k5 k6 hz69 hz
  by_cases hcc : c = i + 1
  · subst hcc
    go_wp2
    go_ret
    exact hfin.out
  · go_wp2
    go_ret
    exact hfin.out
/-- A row more, at a place. -/
def insRow (xs : List S69) (i : Nat) (x : S69) : List S69 := xs.take i ++ x :: xs.drop i
theorem insRow_length (xs : List S69) (i : Nat) (x : S69) (h : i ≤ xs.length) : (insRow xs i x).length = xs.length + 1 := by
  unfold insRow; rw [List.length_append, List.length_cons, List.length_take, List.length_drop]; omega
theorem insRow_cells (xs : List S69) (i : Nat) (x : S69) (h : i ≤ xs.length) : rowCells (insRow xs i x) = (rowCells xs).take (i * 2) ++ [.string x.f0, .string x.f1] ++ (rowCells xs).drop (i * 2) := by
  unfold insRow
  rw [rowCells_append, rowCells_take xs i h, ← rowCells_drop xs i h, List.append_assoc]
  rfl
theorem hov_run (w : World) (g o la ca lb cb vb : Nat) (cur : Array Value) (x : S69) (hh : w.heap[g]? = some (.cells cur 69 (0, 0))) (hx : w.heap[vb]? = some (.cells #[.string x.f0, .string x.f1] 69 (0, 0))) (hne : vb ≠ g) (hc : cur.size ≠ 0) :
    (callFunc 84 #[.slice (some ⟨vb, 0, none⟩) la ca, .slice (some ⟨g, o, none⟩) lb cb]).run Try.prog w = .ok (.value (.bool false)) w := by
  rw [run_callFunc_extern Try.func84 (by kernel_rfl) (by kernel_rfl) (by kernel_rfl) (e := Extern.SlicesOverlaps.overlaps #[24, 24] #[4]) (by kernel_rfl),
    Lib.run_overlaps_apart w 24 4 69 Try.underlying24 2 (fun w => by
      obtain ⟨i0, hi0, hz⟩ := Option.map_eq_some_iff.1 info69
      simp only [Prod.mk.injEq] at hz
      simp [Go.sizeOf, typeInfo, hi0, hz.2.1]) ⟨vb, 0, none⟩ ⟨g, o, none⟩ la ca lb cb hne 69 69 2 cur.size (by simp [World.shape?, hx]) (by simp [World.shape?, hh]) hc (blk_frozen hx 0) (blk_frozen hx 2)]
  rfl
theorem oneRow {w : World} {vb : Nat} {x : S69} (hx : w.heap[vb]? = some (.cells #[.string x.f0, .string x.f1] 69 (0, 0))) : k69.C w (some ⟨vb, 0, none⟩) 1 [x] := by
  refine ⟨rfl, by omega, fun _ => ⟨_, rfl, fun j p hj => ?_⟩⟩
  rcases j with _ | j
  · obtain rfl : x = p := by simpa using hj
    refine ⟨_, rfl, k69_mk w x, fun i u hu => ?_⟩
    rw [Nat.zero_mul, Nat.zero_add, add_plain, blk_cell hx]
    simpa using hu
  · simp at hj
theorem k69_KM {w : World} {base : Nat} {ok : Nat → Prop} (x : S69) (cs : List Value) (h : k69.K w x cs) : k69.M w base ok x cs := by
  rw [k69_open h]; exact k69_mkM w base ok x
set_option maxRecDepth 100000 in
set_option maxHeartbeats 4000000 in
theorem insert_end (base : Nat) (v : Value) (xs : List S69) (x : S69) (vb : Nat) (w : World) (hR : k69.R 69 w base (fun _ => True) v xs) (hx : w.heap[vb]? = some (.cells #[.string x.f0, .string x.f1] 69 (0, 0))) (hB : base ≤ w.heap.size) (hl : xs.length ≤ 1000000) :
    Calls Try.prog 71 #[v, .int .i64 (xs.length : Int), .slice (some ⟨vb, 0, none⟩) 1 1] w (RowsPost base w (insRow xs xs.length x)) := by
  obtain ⟨A, c, rfl⟩ := Kd.R_slice hR
  have hcap := (Kd.R_reads' hR).2.1
  have HR := Aside0.mk hR
  have HX := Aside0.mk (oneRow hx)
  have HBs := Aside0.mk hB
  have he : Aside0 (insRow xs xs.length x = xs ++ [x]) := ⟨by unfold insRow; rw [List.take_length, List.drop_length]⟩
  clear hR hx hB
  by_cases hcc : c = xs.length
  · subst hcc
    go_enter Try.func71, Try.ntmps71
    go_wp2_with ((with_reducible refine gate_builtin (b := .append) (xs := #[.tmp 23, .tmp 24]) rfl ?_); at_builtin; refine Kd.R_append_rows k69 (w0 := w) base rfl (.tmp 23) (.tmp 24) 24 69 (.agg #[.string ⟨#[]⟩, .string ⟨#[]⟩]) 32 rfl Try.underlying24 info69 rfl (by decide) (by omega) (.slice A xs.length _) xs [x] (some ⟨vb, 0, none⟩) 1 1 (fun _ => True) (fun _ => False) rfl rfl HR.out HX.out k69_KM (fun _ h => h.elim) (fun _ _ => trivial) (Below.refl _ _) HBs.out (by omega) ?_; intro v1 w1 ho hb hg hat; obtain ⟨A1, c1, rfl⟩ := Kd.R_slice ho; rw [List.length_append, List.length_singleton] at ho; have HO := Aside0.mk ho; have HM := Aside0.mk (ModT.grown (T := [69]) hg HR.out (by simp) (Nat.le_refl base)); clear ho hb hg hat)
    go_ret
    rw [he.out]
    exact ⟨_, rfl, HO.out, HM.out⟩
  · skip
    go_enter Try.func71, Try.ntmps71
    go_wp2_with ((with_reducible refine gate_builtin (b := .append) (xs := #[.tmp 23, .tmp 24]) rfl ?_); at_builtin; refine Kd.R_append_rows k69 (w0 := w) base rfl (.tmp 23) (.tmp 24) 24 69 (.agg #[.string ⟨#[]⟩, .string ⟨#[]⟩]) 32 rfl Try.underlying24 info69 rfl (by decide) (by omega) (.slice A xs.length _) xs [x] (some ⟨vb, 0, none⟩) 1 1 (fun _ => True) (fun _ => False) rfl rfl HR.out HX.out k69_KM (fun _ h => h.elim) (fun _ _ => trivial) (Below.refl _ _) HBs.out (by omega) ?_; intro v1 w1 ho hb hg hat; obtain ⟨A1, c1, rfl⟩ := Kd.R_slice ho; rw [List.length_append, List.length_singleton] at ho; have HO := Aside0.mk ho; have HM := Aside0.mk (ModT.grown (T := [69]) hg HR.out (by simp) (Nat.le_refl base)); clear ho hb hg hat)
    go_ret
    rw [he.out]
    exact ⟨_, rfl, HO.out, HM.out⟩
set_option maxRecDepth 100000 in
set_option maxHeartbeats 4000000 in
theorem insert_room (base : Nat) (g c n : Nat) (xs : List S69) (i : Nat) (x : S69) (vb : Nat) (w : World) (hR : k69.R 69 w base (fun _ => True) (.slice (some ⟨g, 0, none⟩) n c) xs) (hi : i < n) (hx : w.heap[vb]? = some (.cells #[.string x.f0, .string x.f1] 69 (0, 0))) (hvb : vb ≠ g) (hl : n ≤ 1000000) (hroom : n + 1 ≤ c) :
    Calls Try.prog 71 #[.slice (some ⟨g, 0, none⟩) n c, .int .i64 (i : Int), .slice (some ⟨vb, 0, none⟩) 1 1] w (RowsPost base w (insRow xs i x)) := by
  have hxn : xs.length = n := (Kd.R_reads' hR).1.symm
  obtain ⟨cur, hg, hh, hn, hm, hs, ht⟩ := row_slice hR
  unfold maxLen at hm
  obtain ⟨cs, hcs⟩ : ∃ cs, cs = rowCells xs := ⟨_, rfl⟩
  have hcl : cs.length = n * 2 := by rw [hcs, rowCells_length, hxn]
  have h1c : ∀ u ∈ cs, u.oneCell' = true := hcs ▸ rowCells_one xs
  have hic := insRow_cells xs i x (by omega)
  rw [← hcs] at ht hic
  have hcell : ∀ j u, cs[j]? = some u → w.cell? ⟨g, j, none⟩ = some u := fun j u hj => by
    rw [blk_cell hh, ← Array.getElem?_toList]
    rw [← ht, List.getElem?_take] at hj
    split at hj
    · exact hj
    · cases hj
  have hsp : ∀ j, j < c * 2 → (w.cell? ⟨g, j, none⟩).isSome = true := fun j hj => by rw [blk_cell hh, Array.getElem?_eq_getElem (by omega)]; rfl
  have hsz : (Try.prog.info? 69).map (·.size) = some 2 := by kernel_rfl
  have hdl : (cs.drop (i * 2)).length = (n - i) * 2 := by rw [List.length_drop, hcl]; omega
  obtain ⟨W1, hW1⟩ : ∃ W1, W1 = w.drew.setCells g ((i + 1) * 2) (cs.drop (i * 2)) := ⟨_, rfl⟩
  have hcp1 : ∀ ty dc sc, (Builtin.copy_ #[24, 24] ty #[.slice (some ⟨g, (i + 1) * 2, none⟩) (n - i) dc, .slice (some ⟨g, i * 2, none⟩) (n + 1 - i) sc]).run Try.prog w.drew = .ok (goInt (Nat.min (n + 1 - i) (n - i))) W1 := fun ty dc sc => by
    rw [hW1]
    exact run_copy_cellsN w.drew 24 24 ty 69 g ((i + 1) * 2) (n - i) dc ⟨g, i * 2, none⟩ (n + 1 - i) sc 2 (cs.drop (i * 2)) Try.underlying24 hsz (by rw [hdl, show Nat.min (n + 1 - i) (n - i) = n - i from Nat.min_eq_right (by omega)])
      (fun j u hj => by rw [add_at]; exact hcell (i * 2 + j) u (by rwa [List.getElem?_drop] at hj))
      (fun j hj => by exact hsp _ (by omega)) (fun j _ => by exact blk_frozen hh _) (fun u hu => h1c u (List.mem_of_mem_drop hu))
  obtain ⟨cur1, j1, j2, j3⟩ := setCells_row (cs.drop (i * 2)) ((i + 1) * 2) w.drew cur hh (by rw [hdl]; omega)
  rw [← hW1] at j1
  have hx1 : W1.heap[vb]? = some (.cells #[.string x.f0, .string x.f1] 69 (0, 0)) := by rw [hW1]; exact (setCells_far _ _ vb hvb).trans hx
  obtain ⟨W2, hW2⟩ : ∃ W2, W2 = W1.setCells g (i * 2) [.string x.f0, .string x.f1] := ⟨_, rfl⟩
  have hcp2 : ∀ ty dc, (Builtin.copy_ #[24, 24] ty #[.slice (some ⟨g, i * 2, none⟩) (n + 1 - i) dc, .slice (some ⟨vb, 0, none⟩) 1 1]).run Try.prog W1 = .ok (goInt (Nat.min 1 (n + 1 - i))) W2 := fun ty dc => by
    rw [hW2]
    exact run_copy_cellsN W1 24 24 ty 69 g (i * 2) (n + 1 - i) dc ⟨vb, 0, none⟩ 1 1 2 [.string x.f0, .string x.f1] Try.underlying24 hsz (by rw [show Nat.min 1 (n + 1 - i) = 1 from Nat.min_eq_left (by omega)]; rfl)
      (fun j u hj => by rw [add_plain, blk_cell hx1]; simpa using hj)
      (fun j hj => by have hj' : j < 2 := hj; rw [blk_cell j1, Array.getElem?_eq_getElem (by omega)]; rfl) (fun j _ => by exact blk_frozen j1 _) (fun u hu => by simp only [List.mem_cons, List.not_mem_nil, or_false] at hu; rcases hu with rfl | rfl <;> rfl)
  have hov : ∀ o lb cb, (callFunc 84 #[.slice (some ⟨vb, 0, none⟩) 1 1, .slice (some ⟨g, o, none⟩) lb cb]).run Try.prog w = .ok (.value (.bool false)) w := fun o lb cb => hov_run w g o 1 1 lb cb vb cur x hh hx hvb (by omega)
  have hfin : Aside0 (RowsPost base w (insRow xs i x) (.returned (.slice (some ⟨g, 0, none⟩) (n + 1) c)) W2) := ⟨by
    obtain ⟨cur2, q1, q2, q3⟩ := setCells_row [Value.string x.f0, Value.string x.f1] (i * 2) W1 cur1 j1 (by simp; omega)
    rw [← hW2] at q1
    refine ⟨_, rfl, row_mk hg q1 (by rw [insRow_length xs i x (by omega), hxn]) hroom (by unfold maxLen; omega) (by omega) ?_, ?_⟩
    · have e1 : cur.toList.take (i * 2) = cs.take (i * 2) := by rw [← ht, List.take_take, Nat.min_eq_left (by omega)]
      have l1 : (cur.toList.take ((i + 1) * 2)).length = (i + 1) * 2 := by rw [List.length_take, Array.length_toList]; omega
      have e2 : cur1.toList.take (i * 2) = cs.take (i * 2) := by
        rw [j3, List.append_assoc, List.take_append_of_le_length (by omega), List.take_take, Nat.min_eq_left (by omega), e1]
      have e3 : cur1.toList.drop (i * 2 + 2) = cs.drop (i * 2) ++ cur.toList.drop ((i + 1) * 2 + (cs.drop (i * 2)).length) := by
        rw [j3, List.append_assoc, List.drop_append_of_le_length (by omega), List.drop_of_length_le (by omega), List.nil_append]
      rw [q3, e2]
      show List.take _ (_ ++ cur1.toList.drop (i * 2 + 2)) = _
      rw [e3, hic, ← List.append_assoc]
      exact List.take_left' (by simp only [List.length_append, List.length_take, List.length_drop, List.length_cons, List.length_nil, hcl]; omega)
    · rw [hW2]
      refine ModT.trans ?_ (setCells_mod _ j1 hg)
      rw [hW1]
      exact (ModT.of_below (below_drew (Below.refl _ _))).trans (setCells_mod _ hh hg)⟩
  have hii : ¬ i = n := by omega
  have hii2 : ¬ (i : Int) = (n : Int) := by omega
  have hca : ¬ c = i := by omega
  have hcb : ¬ c = i + 1 := by omega
  have hrm : ¬ (c : Int) < (n : Int) + 1 := by omega
  have hrm2 : (n : Int) + 1 ≤ (c : Int) := by omega
  have hin : i ≤ n := by omega
  have hin1 : i ≤ n + 1 := by omega
  have h01 : (0 : Int) ≤ (i : Int) + 1 := by omega
  have h02 : (0 : Int) ≤ (n : Int) + 1 := by omega
  have h03 : (i : Int) ≤ (n : Int) + 1 := by omega
  have hw1 : IntKind.i64.wrap ((i : Int) + 1) = (i : Int) + 1 := by rw [IntKind.wrap_i64]; omega
  have htn : ((i : Int) + 1).toNat = i + 1 := by omega
  clear hR hh hx hx1 ht hcs hic hcell hsp hdl j1 j2 j3 hW1 hW2 h1c hsz hs
  go_enter Try.func71, Try.ntmps71
  go_wp2_with (simp only [hov])
  go_region_law (refine step_copy_runI rfl _ _ 24 24 rfl _ _ (by simp [Act.eval, Act.put]) (by simp [Act.eval, Act.put]) (hcp1 _ _ _) ?_)
  go_wp2_with (at_builtin; refine wpList_copy_runI _ rfl _ _ 24 24 rfl _ _ rfl rfl (hcp2 _ _) ?_)
  go_ret
  exact hfin.out
set_option maxRecDepth 100000 in
set_option maxHeartbeats 4000000 in
theorem insert_grow (base : Nat) (g c n : Nat) (xs : List S69) (i : Nat) (x : S69) (vb : Nat) (w : World) (hR : k69.R 69 w base (fun _ => True) (.slice (some ⟨g, 0, none⟩) n c) xs) (hi : i < n) (hx : w.heap[vb]? = some (.cells #[.string x.f0, .string x.f1] 69 (0, 0))) (hl : n ≤ 1000000) (hroom : c < n + 1) (hB : base ≤ w.heap.size) :
    Calls Try.prog 71 #[.slice (some ⟨g, 0, none⟩) n c, .int .i64 (i : Int), .slice (some ⟨vb, 0, none⟩) 1 1] w (RowsPost base w (insRow xs i x)) := by
  have hxn : xs.length = n := (Kd.R_reads' hR).1.symm
  obtain ⟨cur, hg, hh, hn, hm, hs, ht⟩ := row_slice hR
  unfold maxLen at hm
  obtain ⟨cs, hcs⟩ : ∃ cs, cs = rowCells xs := ⟨_, rfl⟩
  have hcl : cs.length = n * 2 := by rw [hcs, rowCells_length, hxn]
  have h1c : ∀ u ∈ cs, u.oneCell' = true := hcs ▸ rowCells_one xs
  have hic := insRow_cells xs i x (by omega)
  rw [← hcs] at ht hic
  have hcell : ∀ j u, cs[j]? = some u → w.cell? ⟨g, j, none⟩ = some u := fun j u hj => by
    rw [blk_cell hh, ← Array.getElem?_toList]
    rw [← ht, List.getElem?_take] at hj
    split at hj
    · exact hj
    · cases hj
  have hsz : (Try.prog.info? 69).map (·.size) = some 2 := by kernel_rfl
  have hdl : (cs.drop (i * 2)).length = (n - i) * 2 := by rw [List.length_drop, hcl]; omega
  have htl : (cs.take (i * 2)).length = i * 2 := by rw [List.length_take, hcl]; omega
  have hvw : vb < w.heap.size := blk_lt hx
  have hgw : g < w.heap.size := blk_lt hh
  obtain ⟨i0, hi0, hz⟩ := Option.map_eq_some_iff.1 info69
  simp only [Prod.mk.injEq] at hz
  obtain ⟨hz0, hzs, hzb⟩ := hz
  have hold : (Builtin.firstCells i0.size i (.slice (some ⟨g, 0, none⟩) i c)).run Try.prog w.drew = .ok (cs.take (i * 2)).toArray w.drew := by
    rw [hzs]
    exact run_firstCells_some (w := w.drew) 2 i ⟨g, 0, none⟩ i c (cs.take (i * 2)) htl (fun j u hj => by
      rw [add_plain]
      rw [List.getElem?_take] at hj
      split at hj
      · exact hcell j u hj
      · cases hj)
  obtain ⟨G, hG⟩ : ∃ G, G = grownCap w (n + 1) c 69 := ⟨_, rfl⟩
  have hGn : n + 1 ≤ G := by rw [hG]; exact grownCap_ge w _ _ _
  have hGm : G ≤ 9223372036854775807 := by
    have := grownCap_le_maxLen w (n + 1) c 69 (by unfold maxLen; omega)
    rw [← hG] at this
    unfold maxLen at this
    omega
  obtain ⟨ROW, hROW⟩ : ∃ ROW : Array Value, ROW = (cs.take (i * 2)).toArray ++ Builtin.zeroCells (Value.agg #[.string ⟨#[]⟩, .string ⟨#[]⟩]).cells (n + 1 - i) ++ Builtin.zeroCells (Value.agg #[.string ⟨#[]⟩, .string ⟨#[]⟩]).cells (G - (n + 1)) := ⟨_, rfl⟩
  have hzl : ∀ k, (Builtin.zeroCells (Value.agg #[.string ⟨#[]⟩, .string ⟨#[]⟩]).cells k).size = k * 2 := fun k => by
    simp [Builtin.zeroCells, Value.cells]
  have hRl : ROW.size = G * 2 := by
    rw [hROW, Array.size_append, Array.size_append, hzl, hzl, List.size_toArray, htl]
    omega
  have hRt : ROW.toList.take (i * 2) = cs.take (i * 2) := by
    rw [hROW, Array.toList_append, Array.toList_append, List.append_assoc]
    exact List.take_left' htl
  obtain ⟨W1, hW1⟩ : ∃ W1, W1 = w.drew.alloc (.cells ROW 69) := ⟨_, rfl⟩
  have hik : i + (n + 1 - i) = n + 1 := by omega
  have hrz : ∀ ty, (Builtin.append_ #[24, 3] ty #[.slice (some ⟨g, 0, none⟩) i c, .int .i64 ((n : Int) + 1 - (i : Int))]).run Try.prog w = .ok (.slice (some ⟨w.heap.size, 0, none⟩) (n + 1) G) W1 := fun ty => by
    have h := Lib.run_append_grow_zeros w 24 3 ty 69 i0 _ .i64 .i64 Try.underlying24 Try.underlying3 hi0 hz0 (some ⟨g, 0, none⟩) i c (cs.take (i * 2)) hold (n + 1 - i) (by omega) (by omega) (by omega) (by omega) (by rw [hzb]; omega) (by rw [hzb, hik]; exact growslice_fits hroom (by omega))
    rw [hik, ← hG, ← hROW, ← hW1] at h
    rw [show (n : Int) + 1 - (i : Int) = ((n + 1 - i : Nat) : Int) by omega]
    exact h
  have hh1 : W1.heap[w.heap.size]? = some (.cells ROW 69 (0, 0)) := by rw [hW1]; exact blk_new w.drew _
  have hx1 : W1.heap[vb]? = some (.cells #[.string x.f0, .string x.f1] 69 (0, 0)) := by rw [hW1]; exact blk_alloc (blk_drew hx) _
  have hg1 : W1.heap[g]? = some (.cells cur 69 (0, 0)) := by rw [hW1]; exact blk_alloc (blk_drew hh) _
  have hM1 : ModT [69] base w W1 := by rw [hW1]; exact (ModT.of_below (below_drew (Below.refl _ _))).trans (ModT.alloc _ _ _ _)
  obtain ⟨W2, hW2⟩ : ∃ W2, W2 = W1.setCells w.heap.size (i * 2) [.string x.f0, .string x.f1] := ⟨_, rfl⟩
  have hcpA : ∀ ty dc, (Builtin.copy_ #[24, 24] ty #[.slice (some ⟨w.heap.size, i * 2, none⟩) (n + 1 - i) dc, .slice (some ⟨vb, 0, none⟩) 1 1]).run Try.prog W1 = .ok (goInt (Nat.min 1 (n + 1 - i))) W2 := fun ty dc => by
    rw [hW2]
    exact run_copy_cellsN W1 24 24 ty 69 w.heap.size (i * 2) (n + 1 - i) dc ⟨vb, 0, none⟩ 1 1 2 [.string x.f0, .string x.f1] Try.underlying24 hsz (by rw [show Nat.min 1 (n + 1 - i) = 1 from Nat.min_eq_left (by omega)]; rfl)
      (fun j u hj => by rw [add_plain, blk_cell hx1]; simpa using hj)
      (fun j hj => by have hj' : j < 2 := hj; rw [blk_cell hh1, Array.getElem?_eq_getElem (by omega)]; rfl) (fun j _ => by exact blk_frozen hh1 _) (fun u hu => by simp only [List.mem_cons, List.not_mem_nil, or_false] at hu; rcases hu with rfl | rfl <;> rfl)
  obtain ⟨cur2, q1, q2, q3⟩ := setCells_row [Value.string x.f0, Value.string x.f1] (i * 2) W1 ROW hh1 (by simp; omega)
  rw [← hW2] at q1
  have hg2 : W2.heap[g]? = some (.cells cur 69 (0, 0)) := by rw [hW2]; exact (setCells_far _ _ g (by omega)).trans hg1
  have hM2 : ModT [69] base w W2 := by rw [hW2]; exact hM1.trans (setCells_mod _ hh1 hB)
  have hz2 : W2.heap.size = W1.heap.size := by rw [hW2]; exact (setCells_same _ _ _ _).2.2.2
  obtain ⟨W3, hW3⟩ : ∃ W3, W3 = W2.drew.setCells w.heap.size ((i + 1) * 2) (cs.drop (i * 2)) := ⟨_, rfl⟩
  have hcell2 : ∀ j u, cs[j]? = some u → W2.drew.cell? ⟨g, j, none⟩ = some u := fun j u hj => by
    show W2.cell? _ = _
    have h1 := hcell j u hj
    rw [blk_cell hh] at h1
    rw [blk_cell hg2]
    exact h1
  have hcpB : ∀ ty dc sc, (Builtin.copy_ #[24, 24] ty #[.slice (some ⟨w.heap.size, (i + 1) * 2, none⟩) (n - i) dc, .slice (some ⟨g, i * 2, none⟩) (n - i) sc]).run Try.prog W2.drew = .ok (goInt (Nat.min (n - i) (n - i))) W3 := fun ty dc sc => by
    rw [hW3]
    exact run_copy_cellsN W2.drew 24 24 ty 69 w.heap.size ((i + 1) * 2) (n - i) dc ⟨g, i * 2, none⟩ (n - i) sc 2 (cs.drop (i * 2)) Try.underlying24 hsz (by rw [hdl, show Nat.min (n - i) (n - i) = n - i from Nat.min_eq_left (Nat.le_refl _)])
      (fun j u hj => by rw [add_at]; exact hcell2 (i * 2 + j) u (by rwa [List.getElem?_drop] at hj))
      (fun j hj => by
        have : W2.drew.cell? ⟨w.heap.size, (i + 1) * 2 + j, none⟩ = cur2[(i + 1) * 2 + j]? := blk_cell q1 _
        rw [this, Array.getElem?_eq_getElem (by omega)]; rfl) (fun j _ => by exact blk_frozen q1 _) (fun u hu => h1c u (List.mem_of_mem_drop hu))
  have hfin : Aside0 (RowsPost base w (insRow xs i x) (.returned (.slice (some ⟨w.heap.size, 0, none⟩) (n + 1) G)) W3) := ⟨by
    obtain ⟨cur3, r1, r2, r3⟩ := setCells_row (cs.drop (i * 2)) ((i + 1) * 2) W2.drew cur2 q1 (by omega)
    rw [← hW3] at r1
    refine ⟨_, rfl, row_mk hB r1 (by rw [insRow_length xs i x (by omega), hxn]) hGn (by unfold maxLen; omega) (by omega) ?_, ?_⟩
    · have l1 : (ROW.toList.take (i * 2)).length = i * 2 := by rw [hRt, htl]
      have e1 : cur2.toList.take ((i + 1) * 2) = cs.take (i * 2) ++ [Value.string x.f0, Value.string x.f1] := by
        rw [q3, hRt]
        exact List.take_left' (by rw [List.length_append, htl]; simp; omega)
      rw [r3, e1, hic]
      exact List.take_left' (by simp only [List.length_append, List.length_take, List.length_drop, List.length_cons, List.length_nil, hcl]; omega)
    · rw [hW3]
      exact hM2.trans ((ModT.of_below (below_drew (Below.refl _ _))).trans (setCells_mod _ q1 hB))⟩
  have hii : ¬ i = n := by omega
  have hii2 : ¬ (i : Int) = (n : Int) := by omega
  have hca : ¬ c = i := by omega
  have hGi : ¬ G = i := by omega
  have hGi1 : ¬ G = i + 1 := by omega
  have hrm : (c : Int) < (n : Int) + 1 := by omega
  have hin : i ≤ n := by omega
  have hin1 : i ≤ n + 1 := by omega
  have hicc : i ≤ c := by omega
  have h01 : (0 : Int) ≤ (i : Int) + 1 := by omega
  have h02 : (0 : Int) ≤ (n : Int) + 1 := by omega
  have h03 : (i : Int) ≤ (n : Int) + 1 := by omega
  have hw1 : IntKind.i64.wrap ((i : Int) + 1) = (i : Int) + 1 := by rw [IntKind.wrap_i64]; omega
  have htn : ((i : Int) + 1).toNat = i + 1 := by omega
  clear hR hh hx hx1 ht hcs hic hcell hcell2 hdl htl hG hROW hRl hRt hh1 hg1 hg2 hM1 hM2 hz2 hold hik hz0 hzs hzb hi0 hzl q1 q2 q3 hW1 hW2 hW3 h1c hsz hs
  go_enter Try.func71, Try.ntmps71
  go_wp2_with (first | (at_builtin; refine Lib.wpList_append_run _ rfl _ _ _ _ rfl _ _ rfl rfl _ _ (hrz _) ?_) | (at_builtin; refine wpList_copy_runI _ rfl _ _ 24 24 rfl _ _ rfl rfl (hcpA _ _) ?_))
  go_region_law (refine step_copy_runI rfl _ _ 24 24 rfl _ _ (by simp [Act.eval, Act.put]) (by simp [Act.eval, Act.put]) (hcpB _ _ _) ?_)
  go_wp2
  go_ret
  exact hfin.out
/-- slices.Insert of one row, whatever the room. -/
theorem insert_walk (base : Nat) (v : Value) (xs : List S69) (i : Nat) (x : S69) (vb : Nat) (w : World) (hR : k69.R 69 w base (fun _ => True) v xs) (hi : i ≤ xs.length) (hx : w.heap[vb]? = some (.cells #[.string x.f0, .string x.f1] 69 (0, 0))) (hvb : some vb ≠ v.ownBlock) (hB : base ≤ w.heap.size) (hl : xs.length ≤ 1000000) :
    Calls Try.prog 71 #[v, .int .i64 (i : Int), .slice (some ⟨vb, 0, none⟩) 1 1] w (RowsPost base w (insRow xs i x)) := by
  by_cases hin : i = xs.length
  · subst hin
    exact insert_end base v xs x vb w hR hx hB hl
  · obtain ⟨g, c, cur, rfl, hg, hh, hn, hm, hs, ht⟩ := row_open hR (by omega)
    have hne : vb ≠ g := fun e => hvb (by rw [e]; rfl)
    by_cases hr : xs.length + 1 ≤ c
    · exact insert_room base g c xs.length xs i x vb w hR (by omega) hx hne hl hr
    · exact insert_grow base g c xs.length xs i x vb w hR (by omega) hx hl (by omega) hB
end Go.Proofs.Ytnjidfgjldkkcaa.Q
-- Written for this seat by a program of its session (xp.py over the kit's printer).
namespace Go.Proofs.Ytnjidfgjldkkcaa.Q
open Go.RowKit Go.Proofs.YtnjidfgjldkkcaaW.PrintWords Go.Proofs.YtnjidfgjldkkcaaW.PrintLast Go.Proofs.YtnjidfgjldkkcaaW.PrintMore
attribute [local go_sem] max2_int min2_int max_two min_two max_three min_three max_four min_four xq_geq xq_leq xq_gtr   -- for this text's walks alone
set_option linter.unusedVariables false
set_option linter.unusedSimpArgs false

/-! ### cmp_isNaN_string: function 93 -/
def cmp_isNaN_string.f (a0 : ByteArray) : Option (Bool) := some (a0.toList != a0.toList)
set_option maxHeartbeats 8000000 in
set_option maxRecDepth 100000 in
theorem cmp_isNaN_string.calls (a0 : ByteArray) (r : Bool) (w : World) (h : cmp_isNaN_string.f a0 = some r) :
    Calls Try.prog 93 #[.string a0] w fun e w' => e = .returned (.bool r) ∧ Drawn0 w w' := by
  have H : (some (a0.toList != a0.toList)) = some r := h
  clear h
  obtain rfl := Option.some.inj H
  go_enter Try.func93, Try.ntmps93
  go_wp2
  go_ret
  exact ⟨by first | rfl | (simp; done) | (simp [*]; done), by repeat (first | exact Drawn0.refl _ | apply Drawn0.step)⟩

/-! ### cmp_Compare_string: function 82 -/
def cmp_Compare_string.f (a0 : ByteArray) (a1 : ByteArray) : Option (Int) := (cmp_isNaN_string.f a0).bind fun t101 => ((cmp_isNaN_string.f a1).bind fun t102 => (if t101 = true then (if t102 = true then (some 0) else (some (-1))) else (if t102 = true then (some 1) else (if (Op.bytesLess a0.toList a1.toList) = true then (some (-1)) else (if (Op.bytesLess a1.toList a0.toList) = true then (some 1) else (some 0))))))
set_option maxHeartbeats 8000000 in
set_option maxRecDepth 100000 in
theorem cmp_Compare_string.calls (a0 : ByteArray) (a1 : ByteArray) (r : Int) (w : World) (h : cmp_Compare_string.f a0 a1 = some r) :
    Calls Try.prog 82 #[.string a0, .string a1] w fun e w' => e = .returned (.int .i64 r) ∧ Drawn0 w w' := by
  have H : ((cmp_isNaN_string.f a0).bind fun t101 => ((cmp_isNaN_string.f a1).bind fun t102 => (if t101 = true then (if t102 = true then (some 0) else (some (-1))) else (if t102 = true then (some 1) else (if (Op.bytesLess a0.toList a1.toList) = true then (some (-1)) else (if (Op.bytesLess a1.toList a0.toList) = true then (some 1) else (some 0))))))) = some r := h
  clear h
  replace H := Option.bind_eq_some_iff.mp H
  obtain ⟨t101, A30, H⟩ := H
  replace H : ((cmp_isNaN_string.f a1).bind fun t102 => (if t101 = true then (if t102 = true then (some 0) else (some (-1))) else (if t102 = true then (some 1) else (if (Op.bytesLess a0.toList a1.toList) = true then (some (-1)) else (if (Op.bytesLess a1.toList a0.toList) = true then (some 1) else (some 0)))))) = some r := H
  have A3 := Aside0.mk A30
  clear A30
  replace H := Option.bind_eq_some_iff.mp H
  obtain ⟨t102, A40, H⟩ := H
  replace H : (if t101 = true then (if t102 = true then (some 0) else (some (-1))) else (if t102 = true then (some 1) else (if (Op.bytesLess a0.toList a1.toList) = true then (some (-1)) else (if (Op.bytesLess a1.toList a0.toList) = true then (some 1) else (some 0))))) = some r := H
  have A4 := Aside0.mk A40
  clear A40
  by_cases c5 : t101 = true
  · subst c5
    have H1 : (if t102 = true then (some 0) else (some (-1))) = some r := by rw [if_pos rfl] at H; exact H
    clear H
    have H := H1
    clear H1
    by_cases c6 : t102 = true
    · subst c6
      have H1 : (some 0) = some r := by rw [if_pos rfl] at H; exact H
      clear H
      have H := H1
      clear H1
      obtain rfl := Option.some.inj H
      go_enter Try.func82, Try.ntmps82
      go_wp2_with (first | ((with_reducible refine gate_callee (f := 93) rfl ?_); refine goesL_ (some 8) rfl rfl Try.func93 (by kernel_rfl) rfl #[.string a0] rfl (by (try simp only [List.map_toArray, List.map_cons, List.map_nil]); first | done | rfl | (simp only [List.length_drop, List.length_take]; rfl)) ?_; (with_reducible refine (cmp_isNaN_string.calls a0 true _ A3.out).mono ?_); rintro e w' ⟨rfl, ⟨nd, rfl⟩⟩; refine ⟨_, rfl, ?_⟩) | ((with_reducible refine gate_callee (f := 93) rfl ?_); refine goesL_ (some 10) rfl rfl Try.func93 (by kernel_rfl) rfl #[.string a1] rfl (by (try simp only [List.map_toArray, List.map_cons, List.map_nil]); first | done | rfl | (simp only [List.length_drop, List.length_take]; rfl)) ?_; (with_reducible refine (cmp_isNaN_string.calls a1 true _ A4.out).mono ?_); rintro e w' ⟨rfl, ⟨nd, rfl⟩⟩; refine ⟨_, rfl, ?_⟩))
      go_ret
      exact ⟨by first | rfl | (simp; done) | (simp [*]; done), by repeat (first | exact Drawn0.refl _ | apply Drawn0.step)⟩
    · replace c6 := Bool.eq_false_iff.mpr c6
      subst c6
      have H1 : (some (-1)) = some r := by rw [if_neg (show ¬ (false = true) by decide)] at H; exact H
      clear H
      have H := H1
      clear H1
      obtain rfl := Option.some.inj H
      go_enter Try.func82, Try.ntmps82
      go_wp2_with (first | ((with_reducible refine gate_callee (f := 93) rfl ?_); refine goesL_ (some 8) rfl rfl Try.func93 (by kernel_rfl) rfl #[.string a0] rfl (by (try simp only [List.map_toArray, List.map_cons, List.map_nil]); first | done | rfl | (simp only [List.length_drop, List.length_take]; rfl)) ?_; (with_reducible refine (cmp_isNaN_string.calls a0 true _ A3.out).mono ?_); rintro e w' ⟨rfl, ⟨nd, rfl⟩⟩; refine ⟨_, rfl, ?_⟩) | ((with_reducible refine gate_callee (f := 93) rfl ?_); refine goesL_ (some 10) rfl rfl Try.func93 (by kernel_rfl) rfl #[.string a1] rfl (by (try simp only [List.map_toArray, List.map_cons, List.map_nil]); first | done | rfl | (simp only [List.length_drop, List.length_take]; rfl)) ?_; (with_reducible refine (cmp_isNaN_string.calls a1 false _ A4.out).mono ?_); rintro e w' ⟨rfl, ⟨nd, rfl⟩⟩; refine ⟨_, rfl, ?_⟩))
      go_ret
      exact ⟨by first | rfl | (simp; done) | (simp [*]; done), by repeat (first | exact Drawn0.refl _ | apply Drawn0.step)⟩
  · replace c5 := Bool.eq_false_iff.mpr c5
    subst c5
    have H1 : (if t102 = true then (some 1) else (if (Op.bytesLess a0.toList a1.toList) = true then (some (-1)) else (if (Op.bytesLess a1.toList a0.toList) = true then (some 1) else (some 0)))) = some r := by rw [if_neg (show ¬ (false = true) by decide)] at H; exact H
    clear H
    have H := H1
    clear H1
    by_cases c7 : t102 = true
    · subst c7
      have H1 : (some 1) = some r := by rw [if_pos rfl] at H; exact H
      clear H
      have H := H1
      clear H1
      obtain rfl := Option.some.inj H
      go_enter Try.func82, Try.ntmps82
      go_wp2_with (first | ((with_reducible refine gate_callee (f := 93) rfl ?_); refine goesL_ (some 8) rfl rfl Try.func93 (by kernel_rfl) rfl #[.string a0] rfl (by (try simp only [List.map_toArray, List.map_cons, List.map_nil]); first | done | rfl | (simp only [List.length_drop, List.length_take]; rfl)) ?_; (with_reducible refine (cmp_isNaN_string.calls a0 false _ A3.out).mono ?_); rintro e w' ⟨rfl, ⟨nd, rfl⟩⟩; refine ⟨_, rfl, ?_⟩) | ((with_reducible refine gate_callee (f := 93) rfl ?_); refine goesL_ (some 10) rfl rfl Try.func93 (by kernel_rfl) rfl #[.string a1] rfl (by (try simp only [List.map_toArray, List.map_cons, List.map_nil]); first | done | rfl | (simp only [List.length_drop, List.length_take]; rfl)) ?_; (with_reducible refine (cmp_isNaN_string.calls a1 true _ A4.out).mono ?_); rintro e w' ⟨rfl, ⟨nd, rfl⟩⟩; refine ⟨_, rfl, ?_⟩))
      go_ret
      exact ⟨by first | rfl | (simp; done) | (simp [*]; done), by repeat (first | exact Drawn0.refl _ | apply Drawn0.step)⟩
    · replace c7 := Bool.eq_false_iff.mpr c7
      subst c7
      have H1 : (if (Op.bytesLess a0.toList a1.toList) = true then (some (-1)) else (if (Op.bytesLess a1.toList a0.toList) = true then (some 1) else (some 0))) = some r := by rw [if_neg (show ¬ (false = true) by decide)] at H; exact H
      clear H
      have H := H1
      clear H1
      by_cases c8 : (Op.bytesLess a0.toList a1.toList) = true
      · rw [if_pos c8] at H
        have c8b0 : (Op.bytesLess a0.toList a1.toList) = true := c8
        clear c8
        obtain rfl := Option.some.inj H
        go_enter Try.func82, Try.ntmps82
        go_wp2_with (first | ((with_reducible refine gate_callee (f := 93) rfl ?_); refine goesL_ (some 8) rfl rfl Try.func93 (by kernel_rfl) rfl #[.string a0] rfl (by (try simp only [List.map_toArray, List.map_cons, List.map_nil]); first | done | rfl | (simp only [List.length_drop, List.length_take]; rfl)) ?_; (with_reducible refine (cmp_isNaN_string.calls a0 false _ A3.out).mono ?_); rintro e w' ⟨rfl, ⟨nd, rfl⟩⟩; refine ⟨_, rfl, ?_⟩) | ((with_reducible refine gate_callee (f := 93) rfl ?_); refine goesL_ (some 10) rfl rfl Try.func93 (by kernel_rfl) rfl #[.string a1] rfl (by (try simp only [List.map_toArray, List.map_cons, List.map_nil]); first | done | rfl | (simp only [List.length_drop, List.length_take]; rfl)) ?_; (with_reducible refine (cmp_isNaN_string.calls a1 false _ A4.out).mono ?_); rintro e w' ⟨rfl, ⟨nd, rfl⟩⟩; refine ⟨_, rfl, ?_⟩))
        go_ret
        exact ⟨by first | rfl | (simp; done) | (simp [*]; done), by repeat (first | exact Drawn0.refl _ | apply Drawn0.step)⟩
      · rw [if_neg c8] at H
        have c8b0 : (Op.bytesLess a0.toList a1.toList) = false := by simpa using c8
        clear c8
        by_cases c9 : (Op.bytesLess a1.toList a0.toList) = true
        · rw [if_pos c9] at H
          have c9b0 : (Op.bytesLess a1.toList a0.toList) = true := c9
          clear c9
          obtain rfl := Option.some.inj H
          go_enter Try.func82, Try.ntmps82
          go_wp2_with (first | ((with_reducible refine gate_callee (f := 93) rfl ?_); refine goesL_ (some 8) rfl rfl Try.func93 (by kernel_rfl) rfl #[.string a0] rfl (by (try simp only [List.map_toArray, List.map_cons, List.map_nil]); first | done | rfl | (simp only [List.length_drop, List.length_take]; rfl)) ?_; (with_reducible refine (cmp_isNaN_string.calls a0 false _ A3.out).mono ?_); rintro e w' ⟨rfl, ⟨nd, rfl⟩⟩; refine ⟨_, rfl, ?_⟩) | ((with_reducible refine gate_callee (f := 93) rfl ?_); refine goesL_ (some 10) rfl rfl Try.func93 (by kernel_rfl) rfl #[.string a1] rfl (by (try simp only [List.map_toArray, List.map_cons, List.map_nil]); first | done | rfl | (simp only [List.length_drop, List.length_take]; rfl)) ?_; (with_reducible refine (cmp_isNaN_string.calls a1 false _ A4.out).mono ?_); rintro e w' ⟨rfl, ⟨nd, rfl⟩⟩; refine ⟨_, rfl, ?_⟩))
          go_ret
          exact ⟨by first | rfl | (simp; done) | (simp [*]; done), by repeat (first | exact Drawn0.refl _ | apply Drawn0.step)⟩
        · rw [if_neg c9] at H
          have c9b0 : (Op.bytesLess a1.toList a0.toList) = false := by simpa using c9
          clear c9
          obtain rfl := Option.some.inj H
          go_enter Try.func82, Try.ntmps82
          go_wp2_with (first | ((with_reducible refine gate_callee (f := 93) rfl ?_); refine goesL_ (some 8) rfl rfl Try.func93 (by kernel_rfl) rfl #[.string a0] rfl (by (try simp only [List.map_toArray, List.map_cons, List.map_nil]); first | done | rfl | (simp only [List.length_drop, List.length_take]; rfl)) ?_; (with_reducible refine (cmp_isNaN_string.calls a0 false _ A3.out).mono ?_); rintro e w' ⟨rfl, ⟨nd, rfl⟩⟩; refine ⟨_, rfl, ?_⟩) | ((with_reducible refine gate_callee (f := 93) rfl ?_); refine goesL_ (some 10) rfl rfl Try.func93 (by kernel_rfl) rfl #[.string a1] rfl (by (try simp only [List.map_toArray, List.map_cons, List.map_nil]); first | done | rfl | (simp only [List.length_drop, List.length_take]; rfl)) ?_; (with_reducible refine (cmp_isNaN_string.calls a1 false _ A4.out).mono ?_); rintro e w' ⟨rfl, ⟨nd, rfl⟩⟩; refine ⟨_, rfl, ?_⟩))
          go_ret
          exact ⟨by first | rfl | (simp; done) | (simp [*]; done), by repeat (first | exact Drawn0.refl _ | apply Drawn0.step)⟩

/-! ### rows_place_1: function 81 -/
def rows_place_1.f (a0_0 : ByteArray) (a0_1 : ByteArray) (a1 : ByteArray) : Option (Int) := (cmp_Compare_string.f a0_0 a1).bind fun t104 => (some t104)
set_option maxHeartbeats 8000000 in
set_option maxRecDepth 100000 in
theorem rows_place_1.calls (a0_0 : ByteArray) (a0_1 : ByteArray) (a1 : ByteArray) (r : Int) (w : World) (h : rows_place_1.f a0_0 a0_1 a1 = some r) :
    Calls Try.prog 81 #[.agg #[.string a0_0, .string a0_1], .string a1] w fun e w' => e = .returned (.int .i64 r) ∧ Below w.heap.size w w' := by
  have hu69 := Try.underlying69
  have HB := Aside0.mk (Below.refl w.heap.size w)
  have H : ((cmp_Compare_string.f a0_0 a1).bind fun t104 => (some t104)) = some r := h
  clear h
  replace H := Option.bind_eq_some_iff.mp H
  obtain ⟨t104, A30, H⟩ := H
  replace H : (some t104) = some r := H
  have A3 := Aside0.mk A30
  clear A30
  obtain rfl := Option.some.inj H
  go_enter Try.func81, Try.ntmps81
  go_wp2_with (first | ((with_reducible refine gate_dst (N := 2) rfl ?_); refine box_event ?hg (N := 2) ?hd (cs := #[.string a0_0, .string a0_1]) (t := 69) ?hr ?_; (case hd => rfl); (case hg => rfl); (case hr => first | (go_simp; done) | (go_simp; rfl)); intro gb103 hg w4 hbox hb; have n0_ := Aside0.mk (below_step (by repeat (first | (with_reducible first | exact HB.out | apply below_alloc | apply pw_below_drewN | apply below_drew1) | exact HB.out)) hb); have n1_ := Aside0.mk (hbox); have n2_ := Aside0.mk ((by rw [hg]; exact (below_size (by repeat (first | (with_reducible first | exact HB.out | apply below_alloc | apply pw_below_drewN | apply below_drew1) | exact HB.out))) : w.heap.size ≤ gb103)); have n3_ := Aside0.mk ((by rw [hg]; exact (below_size (by repeat (first | (with_reducible first | exact HB.out | apply below_alloc | apply pw_below_drewN | apply below_drew1) | exact HB.out))) : w.heap.size ≤ gb103)); clear HB; have HB := n0_; have BK103 := n1_; have GW103 := n2_; have GE103 := n3_; clear n0_ n1_ n2_ n3_; clear hb hbox hg; have hcz5_0 : w4.cell? ⟨gb103, 0, none⟩ = some (.string a0_0) := (blk_cell BK103.out 0).trans rfl; have hcz5_1 : w4.cell? ⟨gb103, 1, none⟩ = some (.string a0_1) := (blk_cell BK103.out 1).trans rfl; have hfz5_0 := blk_frozen BK103.out 0; have hfz5_1 := blk_frozen BK103.out 1) | ((with_reducible refine gate_callee (f := 82) rfl ?_); refine goesL_ (some 8) rfl rfl Try.func82 (by kernel_rfl) rfl #[.string a0_0, .string a1] rfl (by (try simp only [List.map_toArray, List.map_cons, List.map_nil]); first | done | rfl | (simp only [List.length_drop, List.length_take]; rfl)) ?_; (with_reducible refine (cmp_Compare_string.calls a0_0 a1 t104 _ A3.out).mono ?_); rintro e w' ⟨rfl, ⟨nd, rfl⟩⟩; refine ⟨_, rfl, ?_⟩))
  go_ret
  exact ⟨by first | rfl | (simp [errW_none, errW_some] <;> rfl) | (simp [*, errW_none, errW_some] <;> rfl), by repeat (first | (with_reducible first | exact HB.out | apply below_alloc | apply pw_below_drewN | apply below_drew1 | refine below_set ?_ GE103.out) | exact HB.out)⟩

end Go.Proofs.Ytnjidfgjldkkcaa.Q
/- slices.BinarySearchFunc at rows and rows.place's own comparison, walked; rows.place. -/
namespace Go.Proofs.Ytnjidfgjldkkcaa.Q
open Go.RowKit Go.Proofs.YtnjidfgjldkkcaaW.PrintWords Go.Proofs.YtnjidfgjldkkcaaW.PrintLast Go.Proofs.YtnjidfgjldkkcaaW.PrintMore
def cmpS (a k : ByteArray) : Int := if Op.bytesLess a.toList k.toList = true then -1 else if Op.bytesLess k.toList a.toList = true then 1 else 0
theorem place_1_f (a b k : ByteArray) : rows_place_1.f a b k = some (cmpS a k) := by
  unfold rows_place_1.f cmp_Compare_string.f cmp_isNaN_string.f cmpS
  simp only [bne_self_eq_false, Option.bind_some, Bool.false_eq_true, if_false]
  split
  · rfl
  · split <;> rfl
/-- The binary search: f rounds at most. -/
def bs (less : Nat → Bool) : Nat → Nat → Nat → Nat
  | 0, i, _ => i
  | f + 1, i, j => if i < j then (if less ((i + j) / 2) = true then bs less f ((i + j) / 2 + 1) j else bs less f i ((i + j) / 2)) else i
theorem bs_fuel (less : Nat → Bool) : ∀ (f g i j : Nat), j - i ≤ f → j - i ≤ g → bs less f i j = bs less g i j
  | 0, 0, _, _, _, _ => rfl
  | 0, g + 1, i, j, h, _ => by unfold bs; rw [if_neg (by omega)]
  | f + 1, 0, i, j, _, h => by unfold bs; rw [if_neg (by omega)]
  | f + 1, g + 1, i, j, h1, h2 => by
    unfold bs
    by_cases hij : i < j
    · rw [if_pos hij, if_pos hij, bs_fuel less f g _ j (by omega) (by omega), bs_fuel less f g i _ (by omega) (by omega)]
    · rw [if_neg hij, if_neg hij]
def lessAt (l : List S69) (k : ByteArray) (i : Nat) : Bool := decide (cmpS (l.getD i z69).f0 k < 0)
def placeI (l : List S69) (k : ByteArray) : Nat := bs (lessAt l k) l.length 0 l.length
def placeB (l : List S69) (k : ByteArray) : Bool := decide (placeI l k < l.length) && decide (cmpS (l.getD (placeI l k) z69).f0 k = 0)
set_option maxRecDepth 100000 in
set_option maxHeartbeats 4000000 in
theorem bsf_walk (A : Option Addr) (c : Nat) (l : List S69) (k : ByteArray) (w : World) (hr : Kd.C k69 w A l.length l) (hc : l.length ≤ c) (hl : l.length ≤ 1000000000) :
    Calls Try.prog 80 #[.slice A l.length c, .string k, .func (Fn.func 81) #[] #[]] w fun e w' => e = .returned (.tuple #[.int .i64 (placeI l k : Int), .bool (placeB l k)]) ∧ Below w.heap.size w w' := by
  have HR := Aside0.mk hr
  have HC := Aside0.mk hc
  clear hr hc
  go_enter Try.func80, Try.ntmps80
  go_wp2
  go_loopw [9, 10] (fun vi vj wr => ∃ i j : Nat, vi = .int .i64 i ∧ vj = .int .i64 j ∧ Aside0 (i ≤ j) ∧ Aside0 (j ≤ l.length) ∧ Aside0 (bs (lessAt l k) (j - i) i j = placeI l k) ∧ Aside0 (Below w.heap.size w wr)) (fun vi vj _ => (intOf vj).toNat - (intOf vi).toNat)
  case atStart => exact ⟨0, l.length, rfl, rfl, ⟨Nat.zero_le _⟩, ⟨Nat.le_refl _⟩, ⟨rfl⟩, ⟨Below.refl _ _⟩⟩
  case round =>
    obtain ⟨i, j, rfl, rfl, hij, hj, hbs, HB⟩ := hrel
    have hij' := hij.out
    have hj' := hj.out
    by_cases hlt : i < j
    · obtain ⟨h, hh⟩ : ∃ h, Aside0 (h = (i + j) / 2) := ⟨_, ⟨rfl⟩⟩
      have hdiv : ((i : Int) + (j : Int)) / 2 = (h : Int) := by have := hh.out; omega
      have hh1 : h < j := by have := hh.out; omega
      have hh2 : i ≤ h := by have := hh.out; omega
      obtain ⟨ad, rfl, hc0, hc1⟩ := at_T69 (Kd.C_below HR.out HB.out) (h : Int) (by omega) (by omega)
      have HL := Aside0.mk (show l.getD h z69 = rd_T69 l (h : Int) from rfl)
      generalize rd_T69 l (h : Int) = r at *
      obtain ⟨ra, rb⟩ := r
      simp only [Int.toNat_natCast] at hc0 hc1
      have hless : Aside0 (lessAt l k h = decide (cmpS ra k < 0)) := ⟨by unfold lessAt; rw [HL.out]⟩
      have hstep : Aside0 ((if lessAt l k h = true then bs (lessAt l k) (j - (h + 1)) (h + 1) j else bs (lessAt l k) (h - i) i h) = placeI l k) := ⟨by
        rw [← hbs.out]
        obtain ⟨f, hf⟩ : ∃ f, j - i = f + 1 := ⟨j - i - 1, by omega⟩
        rw [hf]
        conv => rhs; unfold bs
        rw [if_pos hlt, ← hh.out, bs_fuel _ (j - (h + 1)) f _ _ (by omega) (by omega), bs_fuel _ (h - i) f _ _ (by omega) (by omega)]⟩
      go_wp2_with (go_at_call 81; refine (rows_place_1.calls ra rb k (cmpS ra k) _ (place_1_f ra rb k)).mono ?_; rintro e w1 ⟨rfl, hb1⟩)
      · have HB1 := Aside0.mk (below_step HB.out hb1)
        have hneg : cmpS ra k < 0 := by assumption
        have hs : Aside0 (bs (lessAt l k) (j - (h + 1)) (h + 1) j = placeI l k) := ⟨by have := hstep.out; rw [hless.out, decide_eq_true hneg, if_pos rfl] at this; exact this⟩
        go_roundw
        case rel => exact ⟨h + 1, j, by go_num, rfl, ⟨by omega⟩, hj, hs, HB1⟩
        case measure => simp [intOf]; omega
      · have HB1 := Aside0.mk (below_step HB.out hb1)
        have hneg : 0 ≤ cmpS ra k := by assumption
        have hs : Aside0 (bs (lessAt l k) (h - i) i h = placeI l k) := ⟨by have := hstep.out; rw [hless.out, decide_eq_false (by omega), if_neg (by simp)] at this; exact this⟩
        go_roundw
        case rel => exact ⟨i, h, rfl, rfl, ⟨hh2⟩, ⟨by omega⟩, hs, HB1⟩
        case measure => simp [intOf]; omega
    · have hi : Aside0 (i = placeI l k) := ⟨by
        rw [← hbs.out, show j - i = 0 by omega]
        rfl⟩
      by_cases hlen : i < l.length
      · obtain ⟨ad, rfl, hc0, hc1⟩ := at_T69 (Kd.C_below HR.out HB.out) (i : Int) (by omega) (by omega)
        have HL := Aside0.mk (show l.getD i z69 = rd_T69 l (i : Int) from rfl)
        generalize rd_T69 l (i : Int) = r at *
        obtain ⟨ra, rb⟩ := r
        simp only [Int.toNat_natCast] at hc0 hc1
        have hB : Aside0 (placeB l k = (cmpS ra k == 0)) := ⟨by
          unfold placeB
          rw [← hi.out, HL.out, decide_eq_true hlen, Bool.true_and, Bool.eq_iff_iff, decide_eq_true_eq, beq_iff_eq]⟩
        clear HL hbs
        go_wp2_with (go_at_call 81; refine (rows_place_1.calls ra rb k (cmpS ra k) _ (place_1_f ra rb k)).mono ?_; rintro e w1 ⟨rfl, hb1⟩)
        have HB1 := Aside0.mk (below_step HB.out hb1)
        go_ret2
        refine ⟨?_, HB1.out⟩
        rw [hB.out, ← hi.out]
        rfl
      · have hB : Aside0 (placeB l k = false) := ⟨by
          unfold placeB
          rw [← hi.out, decide_eq_false hlen, Bool.false_and]⟩
        clear hbs
        go_wp2
        go_ret2
        refine ⟨?_, HB.out⟩
        rw [hB.out, ← hi.out]
        rfl

def rows_place.f (l : List S69) (k : ByteArray) : Option (Int × Bool) := if l.length ≤ 1000000000 then some ((placeI l k : Int), placeB l k) else none
theorem rows_place.calls (A0 : Option Addr) (c0 : Nat) (l0 : List S69) (a1 : ByteArray) (r1 : Int) (r2 : Bool) (w : World) (hr0 : Kd.C k69 w A0 l0.length l0) (hc0 : l0.length ≤ c0) (h : rows_place.f l0 a1 = some (r1, r2)) :
    Calls Try.prog 66 #[.slice A0 l0.length c0, .string a1] w fun e w' => e = .returned (.tuple #[.int .i64 r1, .bool r2]) ∧ Below w.heap.size w w' := by
  unfold rows_place.f at h
  split at h
  · rename_i hl
    obtain ⟨rfl, rfl⟩ := Prod.mk.inj (Option.some.inj h)
    go_enter Try.func66, Try.ntmps66
    go_wp2_with (go_at_call 80; refine (bsf_walk A0 c0 l0 a1 _ hr0 hc0 hl).mono ?_; rintro e w1 ⟨rfl, hb1⟩)
    go_ret2
    exact ⟨rfl, hb1⟩
  · cases h
end Go.Proofs.Ytnjidfgjldkkcaa.Q
/- slices.Clone at rows, walked. -/
namespace Go.Proofs.Ytnjidfgjldkkcaa.Q
open Go.RowKit Go.Proofs.YtnjidfgjldkkcaaW.PrintWords Go.Proofs.YtnjidfgjldkkcaaW.PrintLast Go.Proofs.YtnjidfgjldkkcaaW.PrintMore
theorem R_empty {α : Type} (d : Kd α) (e : TypeId) (w : World) : d.R e (w.alloc (.cells #[] e)) w.heap.size (fun _ => True) (.slice (some ⟨w.heap.size, 0, none⟩) 0 0) ([] : List α) := by
  refine ⟨fun _ _ => trivial, [], ?_, ?_⟩
  · have h2 := World.ownsRow_lit (base := w.heap.size) (e := e) (size := d.sz) w #[] 0 (Nat.le_refl _) (by simp [maxLen]) (by simp)
    simpa using h2
  · exact ⟨by simp, fun j p h => by simp at h⟩
theorem nil24 (w : World) (a : Option Addr) (n c : Nat) : (binOp .eql 24 (.slice a n c) (.slice none 0 0)).run Try.prog w = .ok (.bool a.isNone) w := Lib.run_eql_slice_nil w 24 69 a n c 0 0 Try.underlying24
attribute [local go_sem] nil24
def api_Row_67.f (l : List S69) : Option (List S69) := if l.length ≤ 1000000000 then some l else none
set_option maxRecDepth 100000 in
set_option maxHeartbeats 4000000 in
theorem api_Row_67.calls (A0 : Option Addr) (c0 : Nat) (l0 : List S69) (r : List S69) (w : World) (hr0 : Kd.C k69 w A0 l0.length l0) (hc0 : l0.length ≤ c0) (h : api_Row_67.f l0 = some r) :
    Calls Try.prog 67 #[.slice A0 l0.length c0] w fun e w' => ∃ v0_ : Value, e = .returned v0_ ∧ Kd.R k69 69 w' w.heap.size (fun _ => True) v0_ r ∧ Below w.heap.size w w' := by
  unfold api_Row_67.f at h
  split at h
  · rename_i hl
    obtain rfl := Option.some.inj h
    go_enter Try.func67, Try.ntmps67
    cases A0 with
    | none =>
      obtain ⟨h1, _, h3⟩ := hr0
      have hl0 : l0 = [] := by
        rcases Nat.eq_zero_or_pos l0.length with h0 | h0
        · exact List.eq_nil_of_length_eq_zero h0
        · obtain ⟨ad, h, _⟩ := h3 h0
          cases h
      subst hl0
      go_wp2
      go_ret
      exact ⟨.slice none 0 0, rfl, Kd.R_nil _ _ _ _ _, Below.refl _ _⟩
    | some ad =>
      have HR := Aside0.mk (Kd.C_below hr0 (below_alloc (Below.refl w.heap.size w) (.cells #[] 69)))
      have HB := Aside0.mk (below_alloc (Below.refl w.heap.size w) (.cells #[] 69))
      have HL := Aside0.mk hl
      clear hr0 hl
      go_wp2_with ((with_reducible refine gate_builtin (b := .append) (xs := #[.tmp 5, .tmp 6]) rfl ?_); at_builtin; refine Kd.R_append_rows k69 (w0 := w) w.heap.size rfl (.tmp 5) (.tmp 6) 24 69 (.agg #[(.string ⟨#[]⟩), (.string ⟨#[]⟩)]) 32 rfl Try.underlying24 info69 rfl (by decide) (by omega) _ [] l0 (some ad) l0.length c0 (fun _ => True) (fun _ => False) rfl rfl (R_empty k69 69 w) HR.out (fun x cs h => by rw [k69_open h]; exact k69_mkM _ _ _ x) (fun _ h => h.elim) (fun _ _ => trivial) HB.out (below_size HB.out) (by have := HL.out; simp only [List.length_nil]; omega) ?_; intro v1 w1 ho hb hg hat; replace ho := Aside0.mk ho; replace hb := Aside0.mk hb; clear hg hat)
      go_ret
      exact ⟨v1, rfl, ho.out, hb.out⟩
  · cases h
end Go.Proofs.Ytnjidfgjldkkcaa.Q
/- rows.Changed, walked. -/
namespace Go.Proofs.Ytnjidfgjldkkcaa.Q
open Go.RowKit Go.Proofs.YtnjidfgjldkkcaaW.PrintWords Go.Proofs.YtnjidfgjldkkcaaW.PrintLast Go.Proofs.YtnjidfgjldkkcaaW.PrintMore
/-- One change of a table. -/
def stepR (out : List S69) (c : S69) : List S69 :=
  if placeB out c.f0 = true then (if c.f1.toList = [] then out.eraseIdx (placeI out c.f0) else out.set (placeI out c.f0) c)
  else if c.f1.toList = [] then out else insRow out (placeI out c.f0) c
def changedF (l cs : List S69) : List S69 := cs.foldl stepR l
theorem bs_le (less : Nat → Bool) : ∀ (f i j : Nat), i ≤ j → bs less f i j ≤ j
  | 0, _, _, h => h
  | f + 1, i, j, h => by
    unfold bs
    by_cases hij : i < j
    · rw [if_pos hij]
      split
      · exact bs_le less f _ j (by omega)
      · have := bs_le less f i ((i + j) / 2) (by omega)
        omega
    · rw [if_neg hij]; exact h
theorem placeI_le (l : List S69) (k : ByteArray) : placeI l k ≤ l.length := bs_le _ _ _ _ (Nat.zero_le _)
theorem placeB_lt {l : List S69} {k : ByteArray} (h : placeB l k = true) : placeI l k < l.length := by
  unfold placeB at h
  rw [Bool.and_eq_true, decide_eq_true_eq] at h
  exact h.1
theorem stepR_len (out : List S69) (c : S69) : (stepR out c).length ≤ out.length + 1 := by
  unfold stepR
  repeat' split
  · rw [List.length_eraseIdx]; split <;> omega
  · rw [List.length_set]; omega
  · omega
  · rw [insRow_length _ _ _ (placeI_le _ _)]; omega
theorem changed_next {cs : List S69} {i : Nat} {out R : List S69} (h : changedF out (cs.drop i) = R) (hi : i < cs.length) : changedF (stepR out (rd_T69 cs (i : Int))) (cs.drop (i + 1)) = R := by
  have e : rd_T69 cs (i : Int) = cs[i] := by
    unfold rd_T69
    rw [Int.toNat_natCast, List.getD_eq_getElem?_getD, List.getElem?_eq_getElem hi]; rfl
  rw [← h, List.drop_eq_getElem_cons hi, e]
  rfl
theorem row_set {w : World} {base g c n : Nat} {xs : List S69} {i : Nat} {x : S69} (hR : k69.R 69 w base (fun _ => True) (.slice (some ⟨g, 0, none⟩) n c) xs) (hi : i < n) :
    k69.R 69 ((w.setCell ⟨g, i * 2, none⟩ (.string x.f0)).setCell ⟨g, i * 2 + 1, none⟩ (.string x.f1)) base (fun _ => True) (.slice (some ⟨g, 0, none⟩) n c) (xs.set i x) := by
  have hxn : xs.length = n := (Kd.R_reads' hR).1.symm
  obtain ⟨cur, hg, hh, hn, hm, hs, ht⟩ := row_slice hR
  obtain ⟨cur2, q1, q2, q3⟩ := setCells_row [Value.string x.f0, Value.string x.f1] (i * 2) w cur hh (by simp; omega)
  refine row_mk hg q1 (by rw [List.length_set, hxn]) hn hm (by omega) ?_
  have e : xs.set i x = xs.take i ++ x :: xs.drop (i + 1) := List.set_eq_take_append_cons_drop .. |>.trans (by rw [if_pos (by omega)])
  have e1 : cur.toList.take (i * 2) = (rowCells xs).take (i * 2) := by rw [← ht, List.take_take, Nat.min_eq_left (by omega)]
  have e2 : cur.toList.drop (i * 2 + 2) = (rowCells xs).drop ((i + 1) * 2) ++ cur.toList.drop (n * 2) := by
    have : cur.toList = rowCells xs ++ cur.toList.drop (n * 2) := by
      conv => lhs; rw [← List.take_append_drop (n * 2) cur.toList]
      rw [ht]
    conv => lhs; rw [this]
    rw [List.drop_append_of_le_length (by rw [rowCells_length]; omega), show i * 2 + 2 = (i + 1) * 2 by omega]
  have e3 : rowCells (xs.set i x) = (rowCells xs).take (i * 2) ++ [Value.string x.f0, Value.string x.f1] ++ (rowCells xs).drop ((i + 1) * 2) := by
    rw [e, rowCells_append, rowCells_take xs i (by omega), ← rowCells_drop xs (i + 1) (by omega), List.append_assoc]
    rfl
  rw [q3]
  show List.take _ (cur.toList.take (i * 2) ++ _ ++ cur.toList.drop (i * 2 + 2)) = _
  rw [e1, e2, e3, ← List.append_assoc]
  exact List.take_left' (by simp only [List.length_append, List.length_take, List.length_drop, List.length_cons, List.length_nil, rowCells_length]; omega)
set_option maxRecDepth 100000 in
set_option maxHeartbeats 8000000 in
theorem changed_walk (A B : Option Addr) (c d : Nat) (l cs : List S69) (w : World) (hr : Kd.C k69 w A l.length l) (hc : l.length ≤ c) (hq : Kd.C k69 w B cs.length cs) (hd : cs.length ≤ d) (hl : l.length + cs.length ≤ 900000) :
    Calls Try.prog 49 #[.slice A l.length c, .slice B cs.length d] w fun e w' => ∃ v', e = .returned v' ∧ k69.R 69 w' w.heap.size (fun _ => True) v' (changedF l cs) ∧ Below w.heap.size w w' := by
  have HR := Aside0.mk hr
  have HC := Aside0.mk hc
  have HQ := Aside0.mk hq
  have HD := Aside0.mk hd
  clear hr hc hq hd
  go_enter Try.func49, Try.ntmps49
  go_wp2_with (go_at_call 67; refine (api_Row_67.calls A c l l _ HR.out HC.out (by unfold api_Row_67.f; rw [if_pos (by omega)])).mono ?_; rintro e w1 ⟨v, rfl, ho, hb⟩; have HO1 := Aside0.mk ho; have HB1 := Aside0.mk hb; clear ho hb)
  go_loopw [5, 14] (fun v5 v14 wr => ∃ (i : Nat) (out : List S69), v14 = .int .i64 i ∧ Aside0 (i ≤ cs.length) ∧ Aside0 (changedF out (cs.drop i) = changedF l cs) ∧ Aside0 (out.length ≤ l.length + i) ∧ Aside0 (k69.R 69 wr w.heap.size (fun _ => True) v5 out) ∧ Aside0 (Below w.heap.size w wr)) (fun _ v14 _ => cs.length - (intOf v14).toNat)
  case atStart => exact ⟨0, l, rfl, ⟨Nat.zero_le _⟩, ⟨rfl⟩, ⟨Nat.le_refl _⟩, HO1, HB1⟩
  case round =>
    obtain ⟨i, out, rfl, hi, hs, hol, HO, HB⟩ := hrel
    have hil := hi.out
    by_cases hlt : i < cs.length
    · have hst := Aside0.mk (changed_next hs.out hlt)
      obtain ⟨ad, rfl, x0, x1⟩ := at_T69 (Kd.C_below HQ.out HB.out) (i : Int) (by omega) (by omega)
      obtain ⟨m, hm⟩ : ∃ m, m = rd_T69 cs (i : Int) := ⟨_, rfl⟩
      rw [← hm] at hst x0 x1
      rw [Int.toNat_natCast] at x0 x1
      obtain ⟨k, u⟩ := m
      obtain ⟨A5, c5, rfl⟩ := Kd.R_slice HO.out
      have hcap := Aside0.mk (Kd.R_reads' HO.out)
      obtain ⟨p, hp⟩ : ∃ p, Aside0 (p = placeI out k) := ⟨_, ⟨rfl⟩⟩
      obtain ⟨b, hb⟩ : ∃ b, Aside0 (b = placeB out k) := ⟨_, ⟨rfl⟩⟩
      have hcall : Aside0 (∀ W, Below wr.heap.size wr W → Calls Try.prog 66 #[.slice A5 out.length c5, .string k] W fun e w' => e = .returned (.tuple #[.int .i64 (p : Int), .bool b]) ∧ Below W.heap.size W w') := ⟨fun W hW => by
        have := rows_place.calls A5 c5 out k (p : Int) b W (Kd.C_below hcap.out.2.2 hW) hcap.out.2.1 (by unfold rows_place.f; rw [if_pos (by have := hol.out; omega), hp.out, hb.out])
        exact this⟩
      clear hm
      have hpl : p ≤ out.length := hp.out ▸ placeI_le out k
      have hol' := hol.out
      cases b
      · by_cases hu : u.toList = []
        · have hr : Aside0 (stepR out ⟨k, u⟩ = out) := ⟨by unfold stepR; rw [if_neg (by rw [← hb.out]; simp), if_pos hu]⟩
          rw [hr.out] at hst
          go_wp2_with (go_at_call 66; refine (hcall.out _ (by repeat (first | exact Below.refl _ _ | refine below_set ?_ (Nat.le_refl _) | apply below_alloc))).mono ?_; rintro e w3 ⟨rfl, hw⟩; have HW3 := Aside0.mk (below_step (below_alloc (Below.refl _ _) _ : Below wr.heap.size wr (wr.alloc (.cells #[.string k, .string u] 69))) hw); have z0 : w3.cell? ⟨wr.heap.size, 0, none⟩ = some (.string k) := (hw.cell (by simp)).trans (by rw [blk_cell (blk_new wr _)]; rfl); have z1 : w3.cell? ⟨wr.heap.size, 1, none⟩ = some (.string u) := (hw.cell (by simp)).trans (by rw [blk_cell (blk_new wr _)]; rfl); have HO3 := Aside0.mk (Kd.R_below HO.out HW3.out); have HB3 := Aside0.mk (below_step HB.out HW3.out); clear hw)
          all_goals exact ⟨⟨i + 1, out, by simp, ⟨hlt⟩, hst, ⟨by omega⟩, HO3, HB3⟩, by simp [intOf]; omega⟩
        · have hr : Aside0 (stepR out ⟨k, u⟩ = insRow out p ⟨k, u⟩) := ⟨by unfold stepR; rw [if_neg (by rw [← hb.out]; simp), if_neg hu, ← hp.out]⟩
          rw [hr.out] at hst
          have hue : u.toList.isEmpty = false := by simpa using hu
          have hil2 := Aside0.mk (insRow_length out p ⟨k, u⟩ hpl)
          go_wp2_with (first | (go_at_call 66; refine (hcall.out _ (by repeat (first | exact Below.refl _ _ | refine below_set ?_ (Nat.le_refl _) | apply below_alloc))).mono ?_; rintro e w3 ⟨rfl, hw⟩; have HW3 := Aside0.mk (below_step (below_alloc (Below.refl _ _) _ : Below wr.heap.size wr (wr.alloc (.cells #[.string k, .string u] 69))) hw); have z0 : w3.cell? ⟨wr.heap.size, 0, none⟩ = some (.string k) := (hw.cell (by simp)).trans (by rw [blk_cell (blk_new wr _)]; rfl); have z1 : w3.cell? ⟨wr.heap.size, 1, none⟩ = some (.string u) := (hw.cell (by simp)).trans (by rw [blk_cell (blk_new wr _)]; rfl); have HO3 := Aside0.mk (Kd.R_below HO.out HW3.out); have HB3 := Aside0.mk (below_step HB.out HW3.out); clear hw) | (go_at_call 71; refine (insert_walk w.heap.size _ out p ⟨k, u⟩ w3.heap.size _ (Kd.R_alloc HO3.out _) hpl (blk_new w3 _) (fun he => by have := Kd.R_lt HO3.out _ he.symm; omega) (Nat.le_trans HB3.out.size (by simp)) (by omega)).mono ?_; rintro e w4 ⟨v4, rfl, ho, hm⟩; obtain ⟨A4, c4, rfl⟩ := Kd.R_slice ho; have HO4 := Aside0.mk ho; have HB4 := Aside0.mk (hm.below (below_step HB3.out (below_alloc (Below.refl _ _) _)) (Nat.le_trans HB3.out.size (by simp))); clear ho hm))
          go_roundw
          case rel => exact ⟨i + 1, _, by simp, ⟨hlt⟩, hst, ⟨by rw [hil2.out]; omega⟩, HO4, HB4⟩
          case measure => simp [intOf]; omega
      · have hplt : p < out.length := hp.out ▸ placeB_lt hb.out.symm
        by_cases hu : u.toList = []
        · have hr : Aside0 (stepR out ⟨k, u⟩ = out.eraseIdx p) := ⟨by unfold stepR; rw [if_pos hb.out.symm, if_pos hu, ← hp.out]⟩
          rw [hr.out] at hst
          have hel : Aside0 ((out.eraseIdx p).length ≤ out.length) := ⟨by rw [List.length_eraseIdx]; split <;> omega⟩
          go_wp2_with (first | (go_at_call 66; refine (hcall.out _ (by repeat (first | exact Below.refl _ _ | refine below_set ?_ (Nat.le_refl _) | apply below_alloc))).mono ?_; rintro e w3 ⟨rfl, hw⟩; have HW3 := Aside0.mk (below_step (below_alloc (Below.refl _ _) _ : Below wr.heap.size wr (wr.alloc (.cells #[.string k, .string u] 69))) hw); have z0 : w3.cell? ⟨wr.heap.size, 0, none⟩ = some (.string k) := (hw.cell (by simp)).trans (by rw [blk_cell (blk_new wr _)]; rfl); have z1 : w3.cell? ⟨wr.heap.size, 1, none⟩ = some (.string u) := (hw.cell (by simp)).trans (by rw [blk_cell (blk_new wr _)]; rfl); have HO3 := Aside0.mk (Kd.R_below HO.out HW3.out); have HB3 := Aside0.mk (below_step HB.out HW3.out); clear hw) | (go_at_call 70; refine (delete_walk w.heap.size _ out p _ HO3.out hplt HB3.out.size (by omega)).mono ?_; rintro e w4 ⟨v4, rfl, ho, hm⟩; obtain ⟨A4, c4, rfl⟩ := Kd.R_slice ho; have HO4 := Aside0.mk ho; have HB4 := Aside0.mk (hm.below HB3.out HB3.out.size); clear ho hm))
          go_roundw
          case rel => exact ⟨i + 1, _, by simp, ⟨hlt⟩, hst, ⟨by have := hel.out; omega⟩, HO4, HB4⟩
          case measure => simp [intOf]; omega
        · have hr : Aside0 (stepR out ⟨k, u⟩ = out.set p ⟨k, u⟩) := ⟨by unfold stepR; rw [if_pos hb.out.symm, if_neg hu, ← hp.out]⟩
          rw [hr.out] at hst
          have hue : u.toList.isEmpty = false := by simpa using hu
          obtain ⟨g, c', cur, hv, -⟩ := row_open HO.out (by omega)
          injection hv with hv1 hv2 hv3
          subst hv1 hv3
          go_wp2_with (go_at_call 66; refine (hcall.out _ (by repeat (first | exact Below.refl _ _ | refine below_set ?_ (Nat.le_refl _) | apply below_alloc))).mono ?_; rintro e w3 ⟨rfl, hw⟩; have HW3 := Aside0.mk (below_step (below_alloc (Below.refl _ _) _ : Below wr.heap.size wr (wr.alloc (.cells #[.string k, .string u] 69))) hw); have z0 : w3.cell? ⟨wr.heap.size, 0, none⟩ = some (.string k) := (hw.cell (by simp)).trans (by rw [blk_cell (blk_new wr _)]; rfl); have z1 : w3.cell? ⟨wr.heap.size, 1, none⟩ = some (.string u) := (hw.cell (by simp)).trans (by rw [blk_cell (blk_new wr _)]; rfl); have HO3 := Aside0.mk (Kd.R_below HO.out HW3.out); have HB3 := Aside0.mk (below_step HB.out HW3.out); obtain ⟨ad', e', y0, y1⟩ := at_T69 (Kd.R_reads' HO3.out).2.2 (p : Int) (by omega) (by omega); obtain rfl := Option.some.inj e'; rw [Int.toNat_natCast, add_plain] at y0 y1; obtain ⟨cur3, hg3, hh3, -⟩ := row_slice HO3.out; have f0 := blk_frozen hh3 (p * 2); have f1 := blk_frozen hh3 (p * 2 + 1); have HS3 := Aside0.mk (row_set (x := ⟨k, u⟩) HO3.out hplt); have HM3 := Aside0.mk (((ModT.set_ (T := [69]) (j := p * 2) hh3 (by simp) hg3 (.string k)).trans (ModT.set_ (j := p * 2 + 1) (heap_set1 hh3) (by simp) hg3 (.string u))).below HB3.out HB3.out.size); clear hh3; clear hw)
          go_roundw
          case rel => exact ⟨i + 1, _, by simp, ⟨hlt⟩, hst, ⟨by rw [List.length_set]; omega⟩, HS3, HM3⟩
          case measure => simp [intOf]; omega
    · go_wp2
      go_ret
      have := hs.out
      rw [List.drop_of_length_le (by omega)] at this
      rw [← this]
      exact ⟨_, rfl, HO.out, HB.out⟩
end Go.Proofs.Ytnjidfgjldkkcaa.Q
/- wal.sums, wal.frame, walked. -/
namespace Go.Proofs.Ytnjidfgjldkkcaa.Q
open Go.RowKit Go.Proofs.YtnjidfgjldkkcaaW.PrintWords Go.Proofs.YtnjidfgjldkkcaaW.PrintLast Go.Proofs.YtnjidfgjldkkcaaW.PrintMore
def sumA (a x : Int) : Int := Int.tmod (wrap64 (wrap64 (a + wrap64 x) + 1)) 251
def sumB (b a : Int) : Int := Int.tmod (wrap64 (b + a)) 251
def sumsF : Int → Int → List Int → Int × Int
  | a, b, [] => (a, b)
  | a, b, x :: l => sumsF (sumA a x) (sumB b (sumA a x)) l
theorem sumsF_drop (a b : Int) (l : List Int) (i : Nat) (h : i < l.length) : sumsF a b (l.drop i) = sumsF (sumA a (rd l (i : Int))) (sumB b (sumA a (rd l (i : Int)))) (l.drop (i + 1)) := by
  rw [List.drop_eq_getElem_cons h]
  have : rd l (i : Int) = l[i] := by simp [rd, List.getD_eq_getElem?_getD, List.getElem?_eq_getElem h]
  rw [this]; rfl
set_option maxRecDepth 100000 in
set_option maxHeartbeats 4000000 in
theorem sums_walk (A : Option Addr) (c : Nat) (l : List Int) (w : World) (hr : Kd.C (Kd.int .u8) w A l.length l) (hc : l.length ≤ c) (hl : l.length ≤ 1000000000) :
    Calls Try.prog 86 #[.slice A l.length c] w fun e w' => e = .returned (.agg #[.int .u8 ((sumsF 0 0 l).1 % 256), .int .u8 ((sumsF 0 0 l).2 % 256)]) ∧ Below w.heap.size w w' := by
  have HR := Aside0.mk hr
  have HC := Aside0.mk hc
  clear hr hc
  go_enter Try.func86, Try.ntmps86
  go_wp2
  go_loop [3, 4, 9] (fun va vb vi => ∃ (a b : Int) (i : Nat), va = .int .i64 a ∧ vb = .int .i64 b ∧ vi = .int .i64 i ∧ Aside0 (i ≤ l.length) ∧ Aside0 (sumsF a b (l.drop i) = sumsF 0 0 l)) (fun _ _ vi => l.length - (intOf vi).toNat)
  case atStart => exact ⟨0, 0, 0, rfl, rfl, rfl, ⟨Nat.zero_le _⟩, ⟨rfl⟩⟩
  case round =>
    obtain ⟨a, b, i, rfl, rfl, rfl, hi, hs⟩ := hrel
    have hi' := hi.out
    by_cases hlt : i < l.length
    · obtain ⟨ad, rfl, hc0⟩ := Kd.at_int (Kd.C_below HR.out (below_alloc (Below.refl w.heap.size w) (.cells #[.int .u8 0, .int .u8 0] 124))) (i : Int) (by omega) (by omega)
      have hst := Aside0.mk ((sumsF_drop a b l i hlt).symm.trans hs.out)
      generalize rd l (i : Int) = x at *
      simp only [Int.toNat_natCast] at hc0
      go_wp2
      go_round
      case rel => exact ⟨sumA a x, sumB b (sumA a x), i + 1, rfl, rfl, by go_num, ⟨by omega⟩, hst⟩
      case measure => simp [intOf]; omega
    · have hz : sumsF 0 0 l = (a, b) := by rw [← hs.out, List.drop_of_length_le (by omega)]; rfl
      clear hs
      go_wp2
      (try simp only [Exit.inBlock, Exit.then]); refine bodyPost_ret (v := .agg #[.int .u8 (a % 256), .int .u8 (b % 256)]) ?_ rfl ⟨?_, ?_⟩
      · simp [results, asAddr]
        go_simp
      · rfl
      · exact below_alloc (Below.refl _ _) _
end Go.Proofs.Ytnjidfgjldkkcaa.Q
/- wal.frame, walked. -/
namespace Go.Proofs.Ytnjidfgjldkkcaa.Q
open Go.RowKit Go.Proofs.YtnjidfgjldkkcaaW.PrintWords Go.Proofs.YtnjidfgjldkkcaaW.PrintLast Go.Proofs.YtnjidfgjldkkcaaW.PrintMore
def flagOf (b : Bool) : Int := if b then 1 else 0
def frameB (record : List Int) (last : Bool) : List Int := [(record.length : Int) % 256, flagOf last] ++ record
def frameF (record : List Int) (last : Bool) : List Int := frameB record last ++ [(sumsF 0 0 (frameB record last)).1 % 256, (sumsF 0 0 (frameB record last)).2 % 256]
theorem C_pair (t : TypeId) (w : World) (x y : Int) : Kd.C (Kd.int .u8) (w.alloc (.cells #[.int .u8 x, .int .u8 y] t)) (some ⟨w.heap.size, 0, none⟩) 2 [x, y] := by
  have BK : (w.alloc (.cells #[.int .u8 x, .int .u8 y] t)).heap[w.heap.size]? = some (.cells #[.int .u8 x, .int .u8 y] t (0, 0)) := blk_new _ _
  refine ⟨rfl, by omega, fun _ => ⟨⟨w.heap.size, 0, none⟩, rfl, fun j p hj => ?_⟩⟩
  match j, hj with
  | 0, hj =>
    obtain rfl : x = p := by simpa using hj
    refine ⟨[.int .u8 x], rfl, rfl, fun i u hi => ?_⟩
    match i, hi with
    | 0, hi =>
      obtain rfl : _ = u := by simpa using hi
      exact (blk_cell BK 0).trans rfl
    | i + 1, hi => simp at hi
  | 1, hj =>
    obtain rfl : y = p := by simpa using hj
    refine ⟨[.int .u8 y], rfl, rfl, fun i u hi => ?_⟩
    match i, hi with
    | 0, hi =>
      obtain rfl : _ = u := by simpa using hi
      exact (blk_cell BK 1).trans rfl
    | i + 1, hi => simp at hi
  | j + 2, hj => simp at hj
set_option maxRecDepth 100000 in
set_option maxHeartbeats 4000000 in
theorem frame_walk (w0 : World) (v0 : Value) (out : List Int) (Ar : Option Addr) (cr : Nat) (record : List Int) (last : Bool) (w : World) (hO : Kd.R (Kd.int .u8) 5 w w0.heap.size (fun _ => True) v0 out)
    (hB : Below w0.heap.size w0 w) (hr : Kd.C (Kd.int .u8) w0 Ar record.length record) (hc : record.length ≤ cr) (hl : out.length + record.length ≤ 100000000) :
    Calls Try.prog 73 #[v0, .slice Ar record.length cr, .bool last] w fun e w' => ∃ v1, e = .returned v1 ∧ Kd.R (Kd.int .u8) 5 w' w0.heap.size (fun _ => True) v1 (out ++ frameF record last) ∧ Below w0.heap.size w0 w' := by
  obtain ⟨A0, c0, rfl, hc0, _⟩ := Kd.R_reads hO
  have HO := Aside0.mk hO
  have HB := Aside0.mk hB
  have HR := Aside0.mk hr
  have HC := Aside0.mk hc
  have HC0 := Aside0.mk hc0
  have HL := Aside0.mk hl
  clear hO hB hr hc hc0 hl
  go_enter Try.func73, Try.ntmps73
  have HO1 := Aside0.mk (Kd.R_alloc HO.out (.cells #[.int .u8 ((record.length : Int) % 256), .int .u8 (flagOf last)] 5))
  have HB1 := Aside0.mk (below_alloc HB.out (.cells #[.int .u8 ((record.length : Int) % 256), .int .u8 (flagOf last)] 5))
  have HP := Aside0.mk (C_pair 5 w ((record.length : Int) % 256) (flagOf last))
  have HF : Aside0 (frameB record last = [(record.length : Int) % 256, flagOf last] ++ record) := ⟨rfl⟩
  have HFF : Aside0 (frameF record last = frameB record last ++ [(sumsF 0 0 (frameB record last)).1 % 256, (sumsF 0 0 (frameB record last)).2 % 256]) := ⟨rfl⟩
  clear HO
  obtain ⟨fl, hfl⟩ : ∃ fl, Aside0 (fl = flagOf last) := ⟨_, ⟨rfl⟩⟩
  rw [← hfl.out] at HO1 HB1 HP HF
  have hcut : Aside0 (∀ (W : World) (v : Value), Kd.R (Kd.int .u8) 5 W w0.heap.size (fun _ => True) v (out ++ frameB record last) → ∃ A n c A', v = .slice A n c ∧ n = out.length + (frameB record last).length ∧ n ≤ c ∧ A' = (if c = out.length then A else A.map (·.add out.length)) ∧ Kd.C (Kd.int .u8) W A' (frameB record last).length (frameB record last)) := ⟨by
    intro W v h
    obtain ⟨A, c, rfl, hc, hC⟩ := Kd.R_reads h
    refine ⟨A, _, c, _, rfl, by rw [List.length_append], hc, rfl, ?_⟩
    have := Kd.C_drop (m := out.length) hC (by rw [List.length_append]; omega) hc
    rw [List.drop_left, show (Kd.int .u8).sz = 1 from rfl, Nat.mul_one] at this
    exact this⟩
  have hLB : Aside0 ((frameB record last).length = record.length + 2) := ⟨by unfold frameB; simp⟩
  cases last
  · have hfl0 : fl = 0 := hfl.out
    clear hfl
    subst hfl0
    go_wp2_with (first | ((with_reducible refine gate_builtin (b := .append) (xs := #[.tmp 13, .tmp 18]) rfl ?_); at_builtin; refine Kd.R_append_rows (Kd.int .u8) (w0 := w0) w0.heap.size rfl (.tmp 13) (.tmp 18) 36 5 (.int .u8 0) 1 rfl Try.underlying36 info5 rfl (by decide) (by omega) _ out [(record.length : Int) % 256, 0] (some ⟨w.heap.size, 0, none⟩) 2 2 (fun _ => True) (fun _ => False) rfl rfl HO1.out HP.out (fun x cs h => h) (fun _ h => h.elim) (fun _ _ => trivial) HB1.out (below_size HB1.out) (by have := HL.out; omega) ?_; intro v2 w2 ho hb hg hat; clear hg hat; have HO2 := Aside0.mk ho; have HB2 := Aside0.mk hb; clear ho hb) | ((with_reducible refine gate_builtin (b := .append) (xs := #[.tmp 19, .tmp 20]) rfl ?_); at_builtin; refine Kd.R_append_rows (Kd.int .u8) (w0 := w0) w0.heap.size rfl (.tmp 19) (.tmp 20) 36 5 (.int .u8 0) 1 rfl Try.underlying36 info5 rfl (by decide) (by omega) _ (out ++ [(record.length : Int) % 256, 0]) record Ar record.length cr (fun _ => True) (fun _ => False) rfl rfl HO2.out (Kd.C_below HR.out HB2.out) (fun x cs h => h) (fun _ h => h.elim) (fun _ _ => trivial) HB2.out (below_size HB2.out) (by have := HL.out; simp only [List.length_append, List.length_cons, List.length_nil]; omega) ?_; intro v3 w3 ho hb hg hat; clear hg hat; have HO3 := Aside0.mk ho; have HB3 := Aside0.mk hb; clear ho hb; rw [List.append_assoc, ← HF.out] at HO3; obtain ⟨A3, n3, c3, A3d, rfl, hn3, hnc3, hA3, hC3⟩ := hcut.out _ _ HO3.out; have hne : ¬ c3 = out.length := (by have := hLB.out; omega); rw [if_neg hne] at hA3; subst hA3; subst hn3; have HS3 := Aside0.mk hC3; have HN3 := Aside0.mk hnc3; have HX3 := Aside0.mk hne; clear hC3 hnc3) | (go_at_call 86; refine (sums_walk _ (c3 - out.length) (frameB record false) _ HS3.out (by have := HN3.out; have := hLB.out; omega) (by have := HL.out; have := hLB.out; omega)).mono ?_; rintro e w4 ⟨rfl, hb4⟩; have HO4 := Aside0.mk (Kd.R_alloc (Kd.R_below HO3.out hb4) (.cells #[.int .u8 ((sumsF 0 0 (frameB record false)).1 % 256), .int .u8 ((sumsF 0 0 (frameB record false)).2 % 256)] 124)); have HB4 := Aside0.mk (below_alloc (below_step HB3.out hb4) (.cells #[.int .u8 ((sumsF 0 0 (frameB record false)).1 % 256), .int .u8 ((sumsF 0 0 (frameB record false)).2 % 256)] 124)); have HP4 := Aside0.mk (C_pair 124 w4 ((sumsF 0 0 (frameB record false)).1 % 256) ((sumsF 0 0 (frameB record false)).2 % 256)); clear hb4) | ((with_reducible refine gate_builtin (b := .append) (xs := #[.tmp 26, .tmp 27]) rfl ?_); at_builtin; refine Kd.R_append_rows (Kd.int .u8) (w0 := w0) w0.heap.size rfl (.tmp 26) (.tmp 27) 36 5 (.int .u8 0) 1 rfl Try.underlying36 info5 rfl (by decide) (by omega) _ (out ++ frameB record false) [(sumsF 0 0 (frameB record false)).1 % 256, (sumsF 0 0 (frameB record false)).2 % 256] (some ⟨w4.heap.size, 0, none⟩) 2 2 (fun _ => True) (fun _ => False) rfl rfl HO4.out HP4.out (fun x cs h => h) (fun _ h => h.elim) (fun _ _ => trivial) HB4.out (below_size HB4.out) (by have := HL.out; have := hLB.out; simp only [List.length_append]; omega) ?_; intro v5 w5 ho hb hg hat; clear hg hat; rw [List.append_assoc, ← HFF.out] at ho; have HO5 := Aside0.mk ho; have HB5 := Aside0.mk hb; clear ho hb))
    go_ret
    exact ⟨v5, rfl, HO5.out, HB5.out⟩
  · have hfl0 : fl = 1 := hfl.out
    clear hfl
    subst hfl0
    go_wp2_with (first | ((with_reducible refine gate_builtin (b := .append) (xs := #[.tmp 13, .tmp 18]) rfl ?_); at_builtin; refine Kd.R_append_rows (Kd.int .u8) (w0 := w0) w0.heap.size rfl (.tmp 13) (.tmp 18) 36 5 (.int .u8 0) 1 rfl Try.underlying36 info5 rfl (by decide) (by omega) _ out [(record.length : Int) % 256, 1] (some ⟨w.heap.size, 0, none⟩) 2 2 (fun _ => True) (fun _ => False) rfl rfl HO1.out HP.out (fun x cs h => h) (fun _ h => h.elim) (fun _ _ => trivial) HB1.out (below_size HB1.out) (by have := HL.out; omega) ?_; intro v2 w2 ho hb hg hat; clear hg hat; have HO2 := Aside0.mk ho; have HB2 := Aside0.mk hb; clear ho hb) | ((with_reducible refine gate_builtin (b := .append) (xs := #[.tmp 19, .tmp 20]) rfl ?_); at_builtin; refine Kd.R_append_rows (Kd.int .u8) (w0 := w0) w0.heap.size rfl (.tmp 19) (.tmp 20) 36 5 (.int .u8 0) 1 rfl Try.underlying36 info5 rfl (by decide) (by omega) _ (out ++ [(record.length : Int) % 256, 1]) record Ar record.length cr (fun _ => True) (fun _ => False) rfl rfl HO2.out (Kd.C_below HR.out HB2.out) (fun x cs h => h) (fun _ h => h.elim) (fun _ _ => trivial) HB2.out (below_size HB2.out) (by have := HL.out; simp only [List.length_append, List.length_cons, List.length_nil]; omega) ?_; intro v3 w3 ho hb hg hat; clear hg hat; have HO3 := Aside0.mk ho; have HB3 := Aside0.mk hb; clear ho hb; rw [List.append_assoc, ← HF.out] at HO3; obtain ⟨A3, n3, c3, A3d, rfl, hn3, hnc3, hA3, hC3⟩ := hcut.out _ _ HO3.out; have hne : ¬ c3 = out.length := (by have := hLB.out; omega); rw [if_neg hne] at hA3; subst hA3; subst hn3; have HS3 := Aside0.mk hC3; have HN3 := Aside0.mk hnc3; have HX3 := Aside0.mk hne; clear hC3 hnc3) | (go_at_call 86; refine (sums_walk _ (c3 - out.length) (frameB record true) _ HS3.out (by have := HN3.out; have := hLB.out; omega) (by have := HL.out; have := hLB.out; omega)).mono ?_; rintro e w4 ⟨rfl, hb4⟩; have HO4 := Aside0.mk (Kd.R_alloc (Kd.R_below HO3.out hb4) (.cells #[.int .u8 ((sumsF 0 0 (frameB record true)).1 % 256), .int .u8 ((sumsF 0 0 (frameB record true)).2 % 256)] 124)); have HB4 := Aside0.mk (below_alloc (below_step HB3.out hb4) (.cells #[.int .u8 ((sumsF 0 0 (frameB record true)).1 % 256), .int .u8 ((sumsF 0 0 (frameB record true)).2 % 256)] 124)); have HP4 := Aside0.mk (C_pair 124 w4 ((sumsF 0 0 (frameB record true)).1 % 256) ((sumsF 0 0 (frameB record true)).2 % 256)); clear hb4) | ((with_reducible refine gate_builtin (b := .append) (xs := #[.tmp 26, .tmp 27]) rfl ?_); at_builtin; refine Kd.R_append_rows (Kd.int .u8) (w0 := w0) w0.heap.size rfl (.tmp 26) (.tmp 27) 36 5 (.int .u8 0) 1 rfl Try.underlying36 info5 rfl (by decide) (by omega) _ (out ++ frameB record true) [(sumsF 0 0 (frameB record true)).1 % 256, (sumsF 0 0 (frameB record true)).2 % 256] (some ⟨w4.heap.size, 0, none⟩) 2 2 (fun _ => True) (fun _ => False) rfl rfl HO4.out HP4.out (fun x cs h => h) (fun _ h => h.elim) (fun _ _ => trivial) HB4.out (below_size HB4.out) (by have := HL.out; have := hLB.out; simp only [List.length_append]; omega) ?_; intro v5 w5 ho hb hg hat; clear hg hat; rw [List.append_assoc, ← HFF.out] at ho; have HO5 := Aside0.mk ho; have HB5 := Aside0.mk hb; clear ho hb))
    go_ret
    exact ⟨v5, rfl, HO5.out, HB5.out⟩
end Go.Proofs.Ytnjidfgjldkkcaa.Q
-- Written for this seat by a program of its session (xp.py over the kit's printer).
namespace Go.Proofs.Ytnjidfgjldkkcaa.Q
open Go.RowKit Go.Proofs.YtnjidfgjldkkcaaW.PrintWords Go.Proofs.YtnjidfgjldkkcaaW.PrintLast Go.Proofs.YtnjidfgjldkkcaaW.PrintMore
attribute [local go_sem] max2_int min2_int max_two min_two max_three min_three max_four min_four xq_geq xq_leq xq_gtr   -- for this text's walks alone
set_option linter.unusedVariables false
set_option linter.unusedSimpArgs false

/-! ### rows_key: function 44 -/
def rows_key.f (a0 : ByteArray) : Option (Bool) := if a0.toList = ([] : List UInt8) then (some false) else (some (decide ((a0.size : Int) ≤ 20)))
set_option maxHeartbeats 8000000 in
set_option maxRecDepth 100000 in
theorem rows_key.calls (a0 : ByteArray) (r : Bool) (w : World) (h : rows_key.f a0 = some r) :
    Calls Try.prog 44 #[.string a0] w fun e w' => e = .returned (.bool r) ∧ Drawn0 w w' := by
  have H : (if a0.toList = ([] : List UInt8) then (some false) else (some (decide ((a0.size : Int) ≤ 20)))) = some r := h
  clear h
  by_cases c2 : a0.toList = ([] : List UInt8)
  · rw [if_pos c2] at H
    have c2b0 : (a0.toList == ([] : List UInt8)) = true := beq_iff_eq.mpr c2
    have c2b1 : (a0.toList != ([] : List UInt8)) = false := bne_eq_false_iff_eq.mpr c2
    clear c2
    obtain rfl := Option.some.inj H
    go_enter Try.func44, Try.ntmps44
    go_wp2
    go_ret
    exact ⟨by first | rfl | (simp; done) | (simp [*]; done), by repeat (first | exact Drawn0.refl _ | apply Drawn0.step)⟩
  · rw [if_neg c2] at H
    have c2b0 : (a0.toList == ([] : List UInt8)) = false := beq_eq_false_iff_ne.mpr c2
    have c2b1 : (a0.toList != ([] : List UInt8)) = true := bne_iff_ne.mpr c2
    obtain rfl := Option.some.inj H
    go_enter Try.func44, Try.ntmps44
    go_wp2
    go_ret
    exact ⟨by first | rfl | (simp; done) | (simp [*]; done), by repeat (first | exact Drawn0.refl _ | apply Drawn0.step)⟩

/-! ### rows_Check: function 18 -/
mutual
def rows_Check.l0 : Nat → List (S69) → List (S69) → Int → Int → Option (Int)
  | 0, _, _, _, _ => none
  | k + 1, x0, x8, x9, x10 => if x10 < x9 then (if 0 ≤ x10 then (if x10 < (x8.length : Int) then ((rows_key.f ((rd_T69 x8 x10).f0)).bind fun t103 => (if t103 = true then (rows_Check.j1 k x0 x10 x8 x9 x10 (decide ((((rd_T69 x8 x10).f1).size : Int) > 20)) ((rd_T69 x8 x10).f0) ((rd_T69 x8 x10).f1)) else (rows_Check.j1 k x0 x10 x8 x9 x10 true ((rd_T69 x8 x10).f0) ((rd_T69 x8 x10).f1)))) else (none)) else (none)) else (some 0)
def rows_Check.j1 : Nat → List (S69) → Int → List (S69) → Int → Int → Bool → ByteArray → ByteArray → Option (Int)
  | 0, _, _, _, _, _, _, _, _ => none
  | k + 1, x0, x3, x8, x9, x10, x15, x103000, x103001 => if x15 = true then (some 1) else (if x103001.toList = ([] : List UInt8) then (some 4) else (if x3 > 0 then (if 0 ≤ (wrap64 (x3 - 1)) then (if (wrap64 (x3 - 1)) < (x0.length : Int) then (if ((Op.bytesLess (((rd_T69 x0 (wrap64 (x3 - 1))).f0).toList) x103000.toList) = true) then (rows_Check.l0 k x0 x8 x9 (wrap64 (x10 + 1))) else (some 7)) else (none)) else (none)) else (rows_Check.l0 k x0 x8 x9 (wrap64 (x10 + 1)))))
end
def rows_Check.f (k : Nat) (l0 : List (S69)) : Option (Int) := if (l0.length : Int) > 40 then (some 1) else (rows_Check.l0 k l0 l0 (l0.length : Int) 0)
theorem rows_Check.mono_l : ∀ k, (∀ y0 y1 y2 y3, LeO (rows_Check.l0 k y0 y1 y2 y3) (rows_Check.l0 (k + 1) y0 y1 y2 y3)) ∧ (∀ y0 y1 y2 y3 y4 y5 y6 y7, LeO (rows_Check.j1 k y0 y1 y2 y3 y4 y5 y6 y7) (rows_Check.j1 (k + 1) y0 y1 y2 y3 y4 y5 y6 y7))
  | 0 => ⟨fun _ _ _ _ r h => by simp [rows_Check.l0] at h, fun _ _ _ _ _ _ _ _ r h => by simp [rows_Check.j1] at h⟩
  | k + 1 => by
    obtain ⟨ih0, ih1⟩ := rows_Check.mono_l k
    refine ⟨?_, ?_⟩
    · intro y0 y1 y2 y3
      unfold rows_Check.l0
      repeat' first
      | (with_reducible exact ih0 _ _ _ _)
      | (with_reducible exact ih1 _ _ _ _ _ _ _ _)
      | (with_reducible exact LeO.refl _)
      | (with_reducible exact LeO.none _)
      | (with_reducible refine LeO.ite ?_ ?_)
      | (with_reducible refine LeO.bind ?_ (fun _ => ?_))
      | exact ih0 _ _ _ _
      | exact ih1 _ _ _ _ _ _ _ _
      | exact LeO.none _
      | refine LeO.ite ?_ ?_
      | refine LeO.bind ?_ (fun _ => ?_)
    · intro y0 y1 y2 y3 y4 y5 y6 y7
      unfold rows_Check.j1
      repeat' first
      | (with_reducible exact ih0 _ _ _ _)
      | (with_reducible exact ih1 _ _ _ _ _ _ _ _)
      | (with_reducible exact LeO.refl _)
      | (with_reducible exact LeO.none _)
      | (with_reducible refine LeO.ite ?_ ?_)
      | (with_reducible refine LeO.bind ?_ (fun _ => ?_))
      | exact ih0 _ _ _ _
      | exact ih1 _ _ _ _ _ _ _ _
      | exact LeO.none _
      | refine LeO.ite ?_ ?_
      | refine LeO.bind ?_ (fun _ => ?_)
theorem rows_Check.mono : ∀ a0 k, LeO (rows_Check.f k a0) (rows_Check.f (k + 1) a0) := by
  intro a0 k
  obtain ⟨ih0, ih1⟩ := rows_Check.mono_l k
  unfold rows_Check.f
  repeat' first
      | (with_reducible exact ih0 _ _ _ _)
      | (with_reducible exact ih1 _ _ _ _ _ _ _ _)
      | (with_reducible exact LeO.refl _)
      | (with_reducible exact LeO.none _)
      | (with_reducible refine LeO.ite ?_ ?_)
      | (with_reducible refine LeO.bind ?_ (fun _ => ?_))
      | exact ih0 _ _ _ _
      | exact ih1 _ _ _ _ _ _ _ _
      | exact LeO.none _
      | refine LeO.ite ?_ ?_
      | refine LeO.bind ?_ (fun _ => ?_)
set_option maxHeartbeats 8000000 in
set_option maxRecDepth 100000 in
theorem rows_Check.calls (k : Nat) (A0 : Option Addr) (c0 : Nat) (l0 : List (S69)) (r : Int) (w : World) (hr0 : Kd.C k69 w A0 l0.length l0) (hc0 : l0.length ≤ c0) (h : rows_Check.f k l0 = some r) :
    Calls Try.prog 18 #[.slice A0 l0.length c0] w fun e w' => e = .returned (.int .i64 r) ∧ Below w.heap.size w w' := by
  have hu69 := Try.underlying69
  have HR0 := Aside0.mk hr0
  have HC0 := Aside0.mk hc0
  clear hr0 hc0
  have HB := Aside0.mk (Below.refl w.heap.size w)
  have H : (if (l0.length : Int) > 40 then (some 1) else (rows_Check.l0 k l0 l0 (l0.length : Int) 0)) = some r := h
  clear h
  by_cases c2 : (l0.length : Int) > 40
  · rw [if_pos c2] at H
    have c2b0 : decide (40 < (l0.length : Int)) = true := decide_eq_true c2
    have c2b1 : decide (40 < l0.length) = true := decide_eq_true (by omega)
    clear c2
    obtain rfl := Option.some.inj H
    go_enter Try.func18, Try.ntmps18
    go_wp2
    repeat (go_quiet (fail); try go_wp2)
    go_ret
    exact ⟨by first | rfl | (simp [errW_none, errW_some] <;> rfl) | (simp [*, errW_none, errW_some] <;> rfl), by repeat (first | (with_reducible first | exact HB.out | apply below_alloc | apply pw_below_drewN | apply below_drew1) | exact HB.out)⟩
  · rw [if_neg c2] at H
    have c2b0 : decide (40 < (l0.length : Int)) = false := decide_eq_false c2
    have c2b1 : decide (40 < l0.length) = false := decide_eq_false (by omega)
    clear c2
    have H' := Aside0.mk H
    clear H
    go_enter Try.func18, Try.ntmps18
    go_wp2
    repeat (go_quiet (fail); try go_wp2)
    go_loopg [10] k (fun kq v10 w' => ∃ (x10_1 : Int), v10 = .int .i64 x10_1 ∧ Aside0 (rows_Check.l0 kq l0 l0 (l0.length : Int) x10_1 = some r) ∧ Aside0 (kq ≤ k) ∧ Aside0 (Below w.heap.size w w'))
    case atStart => exact ⟨(0), (by first | rfl | (simp; done) | (simp [*]; done)), H', ⟨Nat.le_refl _⟩, ⟨by repeat (first | (with_reducible first | exact HB.out | apply below_alloc | apply pw_below_drewN | apply below_drew1) | exact HB.out)⟩⟩
    case round =>
      clear H'
      try clear c1
      try clear c2
      try clear c2b0
      try clear c2b1
      try clear p2
      obtain ⟨x10_1, rfl, HA, HK1, HB⟩ := hrel
      cases gk with
      | zero => exact absurd HA.out (by simp [rows_Check.l0])
      | succ k1 =>
        have H := HA.out
        clear HA
        simp only [rows_Check.l0] at H
        by_cases c3 : x10_1 < (l0.length : Int)
        · rw [if_pos c3] at H
          have c3b0 : decide (x10_1 < (l0.length : Int)) = true := decide_eq_true c3
          clear c3
          by_cases c4 : 0 ≤ x10_1
          · rw [if_pos c4] at H
            have c4b0 : decide (0 ≤ x10_1) = true := decide_eq_true c4
            clear c4
            by_cases c5 : x10_1 < (l0.length : Int)
            · rw [if_pos c5] at H
              have c5b0 : decide (x10_1 < (l0.length : Int)) = true := decide_eq_true c5
              clear c5
              have HC6 := Aside0.mk H
              clear H
              have p101 : 0 ≤ (x10_1 : Int) := of_decide_eq_true (by first | (with_reducible assumption) | assumption)
              have q101 : x10_1 < (l0.length : Int) := of_decide_eq_true (by first | (with_reducible assumption) | assumption)
              obtain ⟨ad101, e101, hx101_0, hx101_1⟩ := at_T69 HR0.out x10_1 p101 q101
              cases e101
              replace hx101_0 := (HB.out.cell (World.block_lt_of_cell? w _ hx101_0)).trans hx101_0
              replace hx101_1 := (HB.out.cell (World.block_lt_of_cell? w _ hx101_1)).trans hx101_1
              replace p101 := eq_true p101
              replace q101 := eq_true q101
              go_upto_region 6 with (first | ((with_reducible refine gate_dst (N := 4) rfl ?_); (try (refine gate_guard (by rfl) ?_; dsimp only)); refine box_event ?hg (N := 4) ?hd (cs := #[.string (⟨#[]⟩ : ByteArray), .string (⟨#[]⟩ : ByteArray)]) (t := 69) ?hr ?_; (case hd => rfl); (case hg => rfl); (case hr => first | (go_simp; done) | (go_simp; rfl)); intro gb102 hg w7 hbox hb; have n0_ := Aside0.mk (below_step (by repeat (first | (with_reducible first | exact HB.out | apply below_alloc | apply pw_below_drewN | apply below_drew1) | exact HB.out)) hb); have n1_ := Aside0.mk (hbox); have n2_ := Aside0.mk ((by rw [hg]; exact (below_size (by repeat (first | (with_reducible first | exact HB.out | apply below_alloc | apply pw_below_drewN | apply below_drew1) | exact HB.out))) : w.heap.size ≤ gb102)); have n3_ := Aside0.mk ((by rw [hg]; exact (below_size (by repeat (first | (with_reducible first | exact HB.out | apply below_alloc | apply pw_below_drewN | apply below_drew1) | exact HB.out))) : w.heap.size ≤ gb102)); clear HB; have HB := n0_; have BK102 := n1_; have GW102 := n2_; have GE102 := n3_; clear n0_ n1_ n2_ n3_; clear hb hbox hg; have hcz8_0 : w7.cell? ⟨gb102, 0, none⟩ = some (.string (⟨#[]⟩ : ByteArray)) := (blk_cell BK102.out 0).trans rfl; have hcz8_1 : w7.cell? ⟨gb102, 1, none⟩ = some (.string (⟨#[]⟩ : ByteArray)) := (blk_cell BK102.out 1).trans rfl; have hfz8_0 := blk_frozen BK102.out 0; have hfz8_1 := blk_frozen BK102.out 1))
              repeat (go_quiet (first | ((with_reducible refine gate_dst (N := 4) rfl ?_); (try (refine gate_guard (by rfl) ?_; dsimp only)); refine box_event ?hg (N := 4) ?hd (cs := #[.string (⟨#[]⟩ : ByteArray), .string (⟨#[]⟩ : ByteArray)]) (t := 69) ?hr ?_; (case hd => rfl); (case hg => rfl); (case hr => first | (go_simp; done) | (go_simp; rfl)); intro gb102 hg w7 hbox hb; have n0_ := Aside0.mk (below_step (by repeat (first | (with_reducible first | exact HB.out | apply below_alloc | apply pw_below_drewN | apply below_drew1) | exact HB.out)) hb); have n1_ := Aside0.mk (hbox); have n2_ := Aside0.mk ((by rw [hg]; exact (below_size (by repeat (first | (with_reducible first | exact HB.out | apply below_alloc | apply pw_below_drewN | apply below_drew1) | exact HB.out))) : w.heap.size ≤ gb102)); have n3_ := Aside0.mk ((by rw [hg]; exact (below_size (by repeat (first | (with_reducible first | exact HB.out | apply below_alloc | apply pw_below_drewN | apply below_drew1) | exact HB.out))) : w.heap.size ≤ gb102)); clear HB; have HB := n0_; have BK102 := n1_; have GW102 := n2_; have GE102 := n3_; clear n0_ n1_ n2_ n3_; clear hb hbox hg; have hcz8_0 : w7.cell? ⟨gb102, 0, none⟩ = some (.string (⟨#[]⟩ : ByteArray)) := (blk_cell BK102.out 0).trans rfl; have hcz8_1 : w7.cell? ⟨gb102, 1, none⟩ = some (.string (⟨#[]⟩ : ByteArray)) := (blk_cell BK102.out 1).trans rfl; have hfz8_0 := blk_frozen BK102.out 0; have hfz8_1 := blk_frozen BK102.out 1)); go_upto_region 6 with (first | ((with_reducible refine gate_dst (N := 4) rfl ?_); (try (refine gate_guard (by rfl) ?_; dsimp only)); refine box_event ?hg (N := 4) ?hd (cs := #[.string (⟨#[]⟩ : ByteArray), .string (⟨#[]⟩ : ByteArray)]) (t := 69) ?hr ?_; (case hd => rfl); (case hg => rfl); (case hr => first | (go_simp; done) | (go_simp; rfl)); intro gb102 hg w7 hbox hb; have n0_ := Aside0.mk (below_step (by repeat (first | (with_reducible first | exact HB.out | apply below_alloc | apply pw_below_drewN | apply below_drew1) | exact HB.out)) hb); have n1_ := Aside0.mk (hbox); have n2_ := Aside0.mk ((by rw [hg]; exact (below_size (by repeat (first | (with_reducible first | exact HB.out | apply below_alloc | apply pw_below_drewN | apply below_drew1) | exact HB.out))) : w.heap.size ≤ gb102)); have n3_ := Aside0.mk ((by rw [hg]; exact (below_size (by repeat (first | (with_reducible first | exact HB.out | apply below_alloc | apply pw_below_drewN | apply below_drew1) | exact HB.out))) : w.heap.size ≤ gb102)); clear HB; have HB := n0_; have BK102 := n1_; have GW102 := n2_; have GE102 := n3_; clear n0_ n1_ n2_ n3_; clear hb hbox hg; have hcz8_0 : w7.cell? ⟨gb102, 0, none⟩ = some (.string (⟨#[]⟩ : ByteArray)) := (blk_cell BK102.out 0).trans rfl; have hcz8_1 : w7.cell? ⟨gb102, 1, none⟩ = some (.string (⟨#[]⟩ : ByteArray)) := (blk_cell BK102.out 1).trans rfl; have hfz8_0 := blk_frozen BK102.out 0; have hfz8_1 := blk_frozen BK102.out 1)))
              (try simp only [Act.put, List.setIfInBounds_toArray, List.set_cons_zero, List.set_cons_succ])
              go_cut [15] (fun v15 wc => ∃ (kq : Nat) (x15_5 : Bool), v15 = .bool x15_5 ∧ Aside0 (rows_Check.j1 kq l0 x10_1 l0 (l0.length : Int) x10_1 x15_5 ((rd_T69 l0 x10_1).f0) ((rd_T69 l0 x10_1).f1) = some r) ∧ Aside0 (kq ≤ k1) ∧ Aside0 (wc.heap[gb102]? = some (.cells #[.string ((rd_T69 l0 x10_1).f0), .string ((rd_T69 l0 x10_1).f1)] 69 (0, 0))) ∧ Aside0 (Below w.heap.size w wc))
              case first =>
                have H := HC6.out
                clear HC6
                replace H := Option.bind_eq_some_iff.mp H
                obtain ⟨t103, A90, H⟩ := H
                replace H : (if t103 = true then (rows_Check.j1 k1 l0 x10_1 l0 (l0.length : Int) x10_1 (decide ((((rd_T69 l0 x10_1).f1).size : Int) > 20)) ((rd_T69 l0 x10_1).f0) ((rd_T69 l0 x10_1).f1)) else (rows_Check.j1 k1 l0 x10_1 l0 (l0.length : Int) x10_1 true ((rd_T69 l0 x10_1).f0) ((rd_T69 l0 x10_1).f1))) = some r := H
                have A9 := Aside0.mk A90
                clear A90
                by_cases c10 : t103 = true
                · subst c10
                  have H1 : (rows_Check.j1 k1 l0 x10_1 l0 (l0.length : Int) x10_1 (decide ((((rd_T69 l0 x10_1).f1).size : Int) > 20)) ((rd_T69 l0 x10_1).f0) ((rd_T69 l0 x10_1).f1)) = some r := by rw [if_pos rfl] at H; exact H
                  clear H
                  have H := H1
                  clear H1
                  have H' := Aside0.mk H
                  clear H
                  have hcz11_0 : w7.cell? ⟨gb102, 0, none⟩ = some (.string (⟨#[]⟩ : ByteArray)) := (blk_cell BK102.out 0).trans rfl
                  have hcz11_1 : w7.cell? ⟨gb102, 1, none⟩ = some (.string (⟨#[]⟩ : ByteArray)) := (blk_cell BK102.out 1).trans rfl
                  have hfz11_0 := blk_frozen BK102.out 0
                  have hfz11_1 := blk_frozen BK102.out 1
                  go_wp2_with (first | (go_at_call 44; (with_reducible refine (rows_key.calls ((rd_T69 l0 x10_1).f0) true _ A9.out).mono ?_); rintro e w' ⟨rfl, ⟨nd, rfl⟩⟩; (try first | exact ⟨rfl, _, World.drewN_drewN _ _ _⟩ | exact ⟨rfl, _, Eq.trans (World.drewN_drewN _ _ _) (congrArg (World.drewN _) (Nat.add_assoc _ _ _))⟩)))
                  repeat (go_quiet (first | (go_at_call 44; (with_reducible refine (rows_key.calls ((rd_T69 l0 x10_1).f0) true _ A9.out).mono ?_); rintro e w' ⟨rfl, ⟨nd, rfl⟩⟩; (try first | exact ⟨rfl, _, World.drewN_drewN _ _ _⟩ | exact ⟨rfl, _, Eq.trans (World.drewN_drewN _ _ _) (congrArg (World.drewN _) (Nat.add_assoc _ _ _))⟩))); try go_wp2_with (first | (go_at_call 44; (with_reducible refine (rows_key.calls ((rd_T69 l0 x10_1).f0) true _ A9.out).mono ?_); rintro e w' ⟨rfl, ⟨nd, rfl⟩⟩; (try first | exact ⟨rfl, _, World.drewN_drewN _ _ _⟩ | exact ⟨rfl, _, Eq.trans (World.drewN_drewN _ _ _) (congrArg (World.drewN _) (Nat.add_assoc _ _ _))⟩))))
                  go_meet
                  case rel => exact ⟨_, (decide ((((rd_T69 l0 x10_1).f1).size : Int) > 20)), (by first | rfl | (simp; done) | (simp [*]; done)), H', ⟨by have := HK1.out; first | omega | exact Nat.le_refl _⟩, ⟨by (with_reducible repeat (first | refine blk_drewN ?_ _ | refine blk_drew ?_ | refine blk_alloc ?_ _)); refine blk_put (cs := #[.string ((rd_T69 l0 x10_1).f0), .string (⟨#[]⟩ : ByteArray)]) ?_ 1 _ rfl; (with_reducible repeat (first | refine blk_drewN ?_ _ | refine blk_drew ?_ | refine blk_alloc ?_ _)); refine blk_put (cs := #[.string (⟨#[]⟩ : ByteArray), .string (⟨#[]⟩ : ByteArray)]) ?_ 0 _ rfl; (with_reducible repeat (first | refine blk_drewN ?_ _ | refine blk_drew ?_ | refine blk_alloc ?_ _)); exact BK102.out⟩, ⟨by repeat (first | (with_reducible first | exact HB.out | apply below_alloc | apply pw_below_drewN | apply below_drew1 | refine below_set ?_ GE102.out) | exact HB.out)⟩⟩
                · replace c10 := Bool.eq_false_iff.mpr c10
                  subst c10
                  have H1 : (rows_Check.j1 k1 l0 x10_1 l0 (l0.length : Int) x10_1 true ((rd_T69 l0 x10_1).f0) ((rd_T69 l0 x10_1).f1)) = some r := by rw [if_neg (show ¬ (false = true) by decide)] at H; exact H
                  clear H
                  have H := H1
                  clear H1
                  have H' := Aside0.mk H
                  clear H
                  have hcz12_0 : w7.cell? ⟨gb102, 0, none⟩ = some (.string (⟨#[]⟩ : ByteArray)) := (blk_cell BK102.out 0).trans rfl
                  have hcz12_1 : w7.cell? ⟨gb102, 1, none⟩ = some (.string (⟨#[]⟩ : ByteArray)) := (blk_cell BK102.out 1).trans rfl
                  have hfz12_0 := blk_frozen BK102.out 0
                  have hfz12_1 := blk_frozen BK102.out 1
                  go_wp2_with (first | (go_at_call 44; (with_reducible refine (rows_key.calls ((rd_T69 l0 x10_1).f0) false _ A9.out).mono ?_); rintro e w' ⟨rfl, ⟨nd, rfl⟩⟩; (try first | exact ⟨rfl, _, World.drewN_drewN _ _ _⟩ | exact ⟨rfl, _, Eq.trans (World.drewN_drewN _ _ _) (congrArg (World.drewN _) (Nat.add_assoc _ _ _))⟩)))
                  repeat (go_quiet (first | (go_at_call 44; (with_reducible refine (rows_key.calls ((rd_T69 l0 x10_1).f0) false _ A9.out).mono ?_); rintro e w' ⟨rfl, ⟨nd, rfl⟩⟩; (try first | exact ⟨rfl, _, World.drewN_drewN _ _ _⟩ | exact ⟨rfl, _, Eq.trans (World.drewN_drewN _ _ _) (congrArg (World.drewN _) (Nat.add_assoc _ _ _))⟩))); try go_wp2_with (first | (go_at_call 44; (with_reducible refine (rows_key.calls ((rd_T69 l0 x10_1).f0) false _ A9.out).mono ?_); rintro e w' ⟨rfl, ⟨nd, rfl⟩⟩; (try first | exact ⟨rfl, _, World.drewN_drewN _ _ _⟩ | exact ⟨rfl, _, Eq.trans (World.drewN_drewN _ _ _) (congrArg (World.drewN _) (Nat.add_assoc _ _ _))⟩))))
                  go_meet
                  case rel => exact ⟨_, (true), (by first | rfl | (simp; done) | (simp [*]; done)), H', ⟨by have := HK1.out; first | omega | exact Nat.le_refl _⟩, ⟨by (with_reducible repeat (first | refine blk_drewN ?_ _ | refine blk_drew ?_ | refine blk_alloc ?_ _)); refine blk_put (cs := #[.string ((rd_T69 l0 x10_1).f0), .string (⟨#[]⟩ : ByteArray)]) ?_ 1 _ rfl; (with_reducible repeat (first | refine blk_drewN ?_ _ | refine blk_drew ?_ | refine blk_alloc ?_ _)); refine blk_put (cs := #[.string (⟨#[]⟩ : ByteArray), .string (⟨#[]⟩ : ByteArray)]) ?_ 0 _ rfl; (with_reducible repeat (first | refine blk_drewN ?_ _ | refine blk_drew ?_ | refine blk_alloc ?_ _)); exact BK102.out⟩, ⟨by repeat (first | (with_reducible first | exact HB.out | apply below_alloc | apply pw_below_drewN | apply below_drew1 | refine below_set ?_ GE102.out) | exact HB.out)⟩⟩
              case rest =>
                clear HC6
                try clear c1
                try clear p1
                try clear q1
                try clear hx1
                try clear c2
                try clear c2b0
                try clear c2b1
                try clear p2
                try clear c3
                try clear c3b0
                try clear c4
                try clear c4b0
                try clear c5
                try clear c5b0
                try clear c10
                try clear p10
                try clear q10
                try clear hx10
                try clear hcz11_0
                try clear hcz11_1
                try clear hcz12_0
                try clear hcz12_1
                try clear hcz8_0
                try clear hcz8_1
                try clear hfz11_0
                try clear hfz11_1
                try clear hfz12_0
                try clear hfz12_1
                try clear hfz8_0
                try clear hfz8_1
                try clear hx101_0
                try clear hx101_1
                try clear p101
                try clear p2
                try clear q101
                obtain ⟨kq, x15_5, rfl, HA, HJ5, BK102, HB⟩ := hcut
                cases kq with
                | zero => exact absurd HA.out (by simp [rows_Check.j1])
                | succ kj5 =>
                  have H := HA.out
                  clear HA
                  simp only [rows_Check.j1] at H
                  by_cases c13 : x15_5 = true
                  · subst c13
                    have H1 : (some 1) = some r := by rw [if_pos rfl] at H; exact H
                    clear H
                    have H := H1
                    clear H1
                    obtain rfl := Option.some.inj H
                    go_wp2
                    repeat (go_quiet (fail); try go_wp2)
                    go_ret
                    exact ⟨by first | rfl | (simp [errW_none, errW_some] <;> rfl) | (simp [*, errW_none, errW_some] <;> rfl), by repeat (first | (with_reducible first | exact HB.out | apply below_alloc | apply pw_below_drewN | apply below_drew1 | refine below_set ?_ GE102.out) | exact HB.out)⟩
                  · replace c13 := Bool.eq_false_iff.mpr c13
                    subst c13
                    have H1 : (if ((rd_T69 l0 x10_1).f1).toList = ([] : List UInt8) then (some 4) else (if x10_1 > 0 then (if 0 ≤ (wrap64 (x10_1 - 1)) then (if (wrap64 (x10_1 - 1)) < (l0.length : Int) then (if ((Op.bytesLess (((rd_T69 l0 (wrap64 (x10_1 - 1))).f0).toList) ((rd_T69 l0 x10_1).f0).toList) = true) then (rows_Check.l0 kj5 l0 l0 (l0.length : Int) (wrap64 (x10_1 + 1))) else (some 7)) else (none)) else (none)) else (rows_Check.l0 kj5 l0 l0 (l0.length : Int) (wrap64 (x10_1 + 1))))) = some r := by rw [if_neg (show ¬ (false = true) by decide)] at H; exact H
                    clear H
                    have H := H1
                    clear H1
                    by_cases c14 : ((rd_T69 l0 x10_1).f1).toList = ([] : List UInt8)
                    · rw [if_pos c14] at H
                      have c14b0 : (((rd_T69 l0 x10_1).f1).toList == ([] : List UInt8)) = true := beq_iff_eq.mpr c14
                      have c14b1 : (((rd_T69 l0 x10_1).f1).toList != ([] : List UInt8)) = false := bne_eq_false_iff_eq.mpr c14
                      clear c14
                      obtain rfl := Option.some.inj H
                      have hcz15_0 : wc.cell? ⟨gb102, 0, none⟩ = some (.string ((rd_T69 l0 x10_1).f0)) := (blk_cell BK102.out 0).trans rfl
                      have hcz15_1 : wc.cell? ⟨gb102, 1, none⟩ = some (.string ((rd_T69 l0 x10_1).f1)) := (blk_cell BK102.out 1).trans rfl
                      have hfz15_0 := blk_frozen BK102.out 0
                      have hfz15_1 := blk_frozen BK102.out 1
                      go_wp2
                      repeat (go_quiet (fail); try go_wp2)
                      go_ret
                      exact ⟨by first | rfl | (simp [errW_none, errW_some] <;> rfl) | (simp [*, errW_none, errW_some] <;> rfl), by repeat (first | (with_reducible first | exact HB.out | apply below_alloc | apply pw_below_drewN | apply below_drew1 | refine below_set ?_ GE102.out) | exact HB.out)⟩
                    · rw [if_neg c14] at H
                      have c14b0 : (((rd_T69 l0 x10_1).f1).toList == ([] : List UInt8)) = false := beq_eq_false_iff_ne.mpr c14
                      have c14b1 : (((rd_T69 l0 x10_1).f1).toList != ([] : List UInt8)) = true := bne_iff_ne.mpr c14
                      by_cases c16 : x10_1 > 0
                      · rw [if_pos c16] at H
                        have c16b0 : decide (0 < x10_1) = true := decide_eq_true c16
                        clear c16
                        obtain ⟨ji17, hji17⟩ : ∃ j_ : Int, (wrap64 (x10_1 - 1)) = j_ := ⟨_, rfl⟩
                        replace H : (if 0 ≤ (ji17) then (if (ji17) < (l0.length : Int) then (if ((Op.bytesLess (((rd_T69 l0 (ji17)).f0).toList) ((rd_T69 l0 x10_1).f0).toList) = true) then (rows_Check.l0 kj5 l0 l0 (l0.length : Int) (wrap64 (x10_1 + 1))) else (some 7)) else (none)) else (none)) = some r := by first | (rw [hji17] at H; exact H) | (simp only [hji17] at H ⊢; exact H)
                        have hji17w : (IntKind.i64.wrap (x10_1 - 1)) = ji17 := (i64_w _).trans hji17
                        by_cases c18 : 0 ≤ (ji17)
                        · rw [if_pos c18] at H
                          have c18b0 : decide (0 ≤ (ji17)) = true := decide_eq_true c18
                          clear c18
                          by_cases c19 : (ji17) < (l0.length : Int)
                          · rw [if_pos c19] at H
                            have c19b0 : decide ((ji17) < (l0.length : Int)) = true := decide_eq_true c19
                            clear c19
                            by_cases c20 : ((Op.bytesLess (((rd_T69 l0 (ji17)).f0).toList) ((rd_T69 l0 x10_1).f0).toList) = true)
                            · rw [if_pos c20] at H
                              have c20b0 : (Op.bytesLess (((rd_T69 l0 (ji17)).f0).toList) ((rd_T69 l0 x10_1).f0).toList) = true := c20
                              clear c20
                              have H' := Aside0.mk H
                              clear H
                              have hcz21_0 : wc.cell? ⟨gb102, 0, none⟩ = some (.string ((rd_T69 l0 x10_1).f0)) := (blk_cell BK102.out 0).trans rfl
                              have hcz21_1 : wc.cell? ⟨gb102, 1, none⟩ = some (.string ((rd_T69 l0 x10_1).f1)) := (blk_cell BK102.out 1).trans rfl
                              have hfz21_0 := blk_frozen BK102.out 0
                              have hfz21_1 := blk_frozen BK102.out 1
                              have p104 : 0 ≤ ((ji17) : Int) := of_decide_eq_true (by first | (with_reducible assumption) | assumption)
                              have q104 : (ji17) < (l0.length : Int) := of_decide_eq_true (by first | (with_reducible assumption) | assumption)
                              obtain ⟨ad104, e104, hx104_0, hx104_1⟩ := at_T69 HR0.out (ji17) p104 q104
                              obtain rfl : ad101 = ad104 := (by injection e104)
                              replace hx104_0 := (HB.out.cell (World.block_lt_of_cell? w _ hx104_0)).trans hx104_0
                              replace hx104_1 := (HB.out.cell (World.block_lt_of_cell? w _ hx104_1)).trans hx104_1
                              replace p104 := eq_true p104
                              replace q104 := eq_true q104
                              go_wp2
                              repeat (go_quiet (fail); try go_wp2)
                              go_roundg kj5
                              case measure => have := HK1.out; have := HJ5.out; omega
                              case rel => exact ⟨(wrap64 (x10_1 + 1)), (by first | rfl | (simp; done) | (simp [*]; done)), H', ⟨by have := HK1.out; have := HJ5.out; omega⟩, ⟨by repeat (first | (with_reducible first | exact HB.out | apply below_alloc | apply pw_below_drewN | apply below_drew1 | refine below_set ?_ GE102.out) | exact HB.out)⟩⟩
                            · rw [if_neg c20] at H
                              have c20b0 : (Op.bytesLess (((rd_T69 l0 (ji17)).f0).toList) ((rd_T69 l0 x10_1).f0).toList) = false := by simpa using c20
                              clear c20
                              obtain rfl := Option.some.inj H
                              have hcz22_0 : wc.cell? ⟨gb102, 0, none⟩ = some (.string ((rd_T69 l0 x10_1).f0)) := (blk_cell BK102.out 0).trans rfl
                              have hcz22_1 : wc.cell? ⟨gb102, 1, none⟩ = some (.string ((rd_T69 l0 x10_1).f1)) := (blk_cell BK102.out 1).trans rfl
                              have hfz22_0 := blk_frozen BK102.out 0
                              have hfz22_1 := blk_frozen BK102.out 1
                              have p104 : 0 ≤ ((ji17) : Int) := of_decide_eq_true (by first | (with_reducible assumption) | assumption)
                              have q104 : (ji17) < (l0.length : Int) := of_decide_eq_true (by first | (with_reducible assumption) | assumption)
                              obtain ⟨ad104, e104, hx104_0, hx104_1⟩ := at_T69 HR0.out (ji17) p104 q104
                              obtain rfl : ad101 = ad104 := (by injection e104)
                              replace hx104_0 := (HB.out.cell (World.block_lt_of_cell? w _ hx104_0)).trans hx104_0
                              replace hx104_1 := (HB.out.cell (World.block_lt_of_cell? w _ hx104_1)).trans hx104_1
                              replace p104 := eq_true p104
                              replace q104 := eq_true q104
                              go_wp2
                              repeat (go_quiet (fail); try go_wp2)
                              go_ret
                              exact ⟨by first | rfl | (simp [errW_none, errW_some] <;> rfl) | (simp only [← hji17]; first | rfl | (simp [errW_none, errW_some] <;> rfl)) | (simp [*, errW_none, errW_some] <;> rfl), by repeat (first | (with_reducible first | exact HB.out | apply below_alloc | apply pw_below_drewN | apply below_drew1 | refine below_set ?_ GE102.out) | exact HB.out)⟩
                          · rw [if_neg c19] at H
                            exact absurd H (by simp)
                        · rw [if_neg c18] at H
                          exact absurd H (by simp)
                      · rw [if_neg c16] at H
                        have c16b0 : decide (0 < x10_1) = false := decide_eq_false c16
                        clear c16
                        have H' := Aside0.mk H
                        clear H
                        have hcz23_0 : wc.cell? ⟨gb102, 0, none⟩ = some (.string ((rd_T69 l0 x10_1).f0)) := (blk_cell BK102.out 0).trans rfl
                        have hcz23_1 : wc.cell? ⟨gb102, 1, none⟩ = some (.string ((rd_T69 l0 x10_1).f1)) := (blk_cell BK102.out 1).trans rfl
                        have hfz23_0 := blk_frozen BK102.out 0
                        have hfz23_1 := blk_frozen BK102.out 1
                        go_wp2
                        repeat (go_quiet (fail); try go_wp2)
                        go_roundg kj5
                        case measure => have := HK1.out; have := HJ5.out; omega
                        case rel => exact ⟨(wrap64 (x10_1 + 1)), (by first | rfl | (simp; done) | (simp [*]; done)), H', ⟨by have := HK1.out; have := HJ5.out; omega⟩, ⟨by repeat (first | (with_reducible first | exact HB.out | apply below_alloc | apply pw_below_drewN | apply below_drew1 | refine below_set ?_ GE102.out) | exact HB.out)⟩⟩
            · rw [if_neg c5] at H
              exact absurd H (by simp)
          · rw [if_neg c4] at H
            exact absurd H (by simp)
        · rw [if_neg c3] at H
          have c3b0 : decide (x10_1 < (l0.length : Int)) = false := decide_eq_false c3
          clear c3
          obtain rfl := Option.some.inj H
          go_wp2
          repeat (go_quiet (fail); try go_wp2)
          go_ret
          exact ⟨by first | rfl | (simp [errW_none, errW_some] <;> rfl) | (simp [*, errW_none, errW_some] <;> rfl), by repeat (first | (with_reducible first | exact HB.out | apply below_alloc | apply pw_below_drewN | apply below_drew1) | exact HB.out)⟩

/-! ### bagnallref_RowsFault: function 19 -/
mutual
def bagnallref_RowsFault.l0 : Nat → List (S69) → List (S69) → Int → Int → Option (Int)
  | 0, _, _, _, _ => none
  | k + 1, x0, x8, x9, x10 => if x10 < x9 then (if 0 ≤ x10 then (if x10 < (x8.length : Int) then (if (((rd_T69 x8 x10).f0).size : Int) < 1 then (bagnallref_RowsFault.j1 k x0 x10 x8 x9 x10 true ((rd_T69 x8 x10).f0) ((rd_T69 x8 x10).f1)) else (if (((rd_T69 x8 x10).f0).size : Int) > 20 then (bagnallref_RowsFault.j1 k x0 x10 x8 x9 x10 true ((rd_T69 x8 x10).f0) ((rd_T69 x8 x10).f1)) else (bagnallref_RowsFault.j1 k x0 x10 x8 x9 x10 (decide ((((rd_T69 x8 x10).f1).size : Int) > 20)) ((rd_T69 x8 x10).f0) ((rd_T69 x8 x10).f1)))) else (none)) else (none)) else (some 0)
def bagnallref_RowsFault.j1 : Nat → List (S69) → Int → List (S69) → Int → Int → Bool → ByteArray → ByteArray → Option (Int)
  | 0, _, _, _, _, _, _, _, _ => none
  | k + 1, x0, x3, x8, x9, x10, x30, x107000, x107001 => if x30 = true then (some 1) else (if (x107001.size : Int) = 0 then (some 4) else (if x3 > 0 then (if 0 ≤ (wrap64 (x3 - 1)) then (if (wrap64 (x3 - 1)) < (x0.length : Int) then (if ((Op.bytesLess (((rd_T69 x0 (wrap64 (x3 - 1))).f0).toList) x107000.toList) = true) then (bagnallref_RowsFault.l0 k x0 x8 x9 (wrap64 (x10 + 1))) else (some 7)) else (none)) else (none)) else (bagnallref_RowsFault.l0 k x0 x8 x9 (wrap64 (x10 + 1)))))
end
def bagnallref_RowsFault.f (k : Nat) (l0 : List (S69)) : Option (Int) := if (l0.length : Int) > 40 then (some 1) else (bagnallref_RowsFault.l0 k l0 l0 (l0.length : Int) 0)
theorem bagnallref_RowsFault.mono_l : ∀ k, (∀ y0 y1 y2 y3, LeO (bagnallref_RowsFault.l0 k y0 y1 y2 y3) (bagnallref_RowsFault.l0 (k + 1) y0 y1 y2 y3)) ∧ (∀ y0 y1 y2 y3 y4 y5 y6 y7, LeO (bagnallref_RowsFault.j1 k y0 y1 y2 y3 y4 y5 y6 y7) (bagnallref_RowsFault.j1 (k + 1) y0 y1 y2 y3 y4 y5 y6 y7))
  | 0 => ⟨fun _ _ _ _ r h => by simp [bagnallref_RowsFault.l0] at h, fun _ _ _ _ _ _ _ _ r h => by simp [bagnallref_RowsFault.j1] at h⟩
  | k + 1 => by
    obtain ⟨ih0, ih1⟩ := bagnallref_RowsFault.mono_l k
    refine ⟨?_, ?_⟩
    · intro y0 y1 y2 y3
      unfold bagnallref_RowsFault.l0
      repeat' first
      | (with_reducible exact ih0 _ _ _ _)
      | (with_reducible exact ih1 _ _ _ _ _ _ _ _)
      | (with_reducible exact LeO.refl _)
      | (with_reducible exact LeO.none _)
      | (with_reducible refine LeO.ite ?_ ?_)
      | (with_reducible refine LeO.bind ?_ (fun _ => ?_))
      | exact ih0 _ _ _ _
      | exact ih1 _ _ _ _ _ _ _ _
      | exact LeO.none _
      | refine LeO.ite ?_ ?_
      | refine LeO.bind ?_ (fun _ => ?_)
    · intro y0 y1 y2 y3 y4 y5 y6 y7
      unfold bagnallref_RowsFault.j1
      repeat' first
      | (with_reducible exact ih0 _ _ _ _)
      | (with_reducible exact ih1 _ _ _ _ _ _ _ _)
      | (with_reducible exact LeO.refl _)
      | (with_reducible exact LeO.none _)
      | (with_reducible refine LeO.ite ?_ ?_)
      | (with_reducible refine LeO.bind ?_ (fun _ => ?_))
      | exact ih0 _ _ _ _
      | exact ih1 _ _ _ _ _ _ _ _
      | exact LeO.none _
      | refine LeO.ite ?_ ?_
      | refine LeO.bind ?_ (fun _ => ?_)
theorem bagnallref_RowsFault.mono : ∀ a0 k, LeO (bagnallref_RowsFault.f k a0) (bagnallref_RowsFault.f (k + 1) a0) := by
  intro a0 k
  obtain ⟨ih0, ih1⟩ := bagnallref_RowsFault.mono_l k
  unfold bagnallref_RowsFault.f
  repeat' first
      | (with_reducible exact ih0 _ _ _ _)
      | (with_reducible exact ih1 _ _ _ _ _ _ _ _)
      | (with_reducible exact LeO.refl _)
      | (with_reducible exact LeO.none _)
      | (with_reducible refine LeO.ite ?_ ?_)
      | (with_reducible refine LeO.bind ?_ (fun _ => ?_))
      | exact ih0 _ _ _ _
      | exact ih1 _ _ _ _ _ _ _ _
      | exact LeO.none _
      | refine LeO.ite ?_ ?_
      | refine LeO.bind ?_ (fun _ => ?_)
set_option maxHeartbeats 8000000 in
set_option maxRecDepth 100000 in
theorem bagnallref_RowsFault.calls (k : Nat) (A0 : Option Addr) (c0 : Nat) (l0 : List (S69)) (r : Int) (w : World) (hr0 : Kd.C k69 w A0 l0.length l0) (hc0 : l0.length ≤ c0) (h : bagnallref_RowsFault.f k l0 = some r) :
    Calls Try.prog 19 #[.slice A0 l0.length c0] w fun e w' => e = .returned (.int .i64 r) ∧ Below w.heap.size w w' := by
  have hu69 := Try.underlying69
  have HR0 := Aside0.mk hr0
  have HC0 := Aside0.mk hc0
  clear hr0 hc0
  have HB := Aside0.mk (Below.refl w.heap.size w)
  have H : (if (l0.length : Int) > 40 then (some 1) else (bagnallref_RowsFault.l0 k l0 l0 (l0.length : Int) 0)) = some r := h
  clear h
  by_cases c2 : (l0.length : Int) > 40
  · rw [if_pos c2] at H
    have c2b0 : decide (40 < (l0.length : Int)) = true := decide_eq_true c2
    have c2b1 : decide (40 < l0.length) = true := decide_eq_true (by omega)
    clear c2
    obtain rfl := Option.some.inj H
    go_enter Try.func19, Try.ntmps19
    go_wp2
    repeat (go_quiet (fail); try go_wp2)
    go_ret
    exact ⟨by first | rfl | (simp [errW_none, errW_some] <;> rfl) | (simp [*, errW_none, errW_some] <;> rfl), by repeat (first | (with_reducible first | exact HB.out | apply below_alloc | apply pw_below_drewN | apply below_drew1) | exact HB.out)⟩
  · rw [if_neg c2] at H
    have c2b0 : decide (40 < (l0.length : Int)) = false := decide_eq_false c2
    have c2b1 : decide (40 < l0.length) = false := decide_eq_false (by omega)
    clear c2
    have H' := Aside0.mk H
    clear H
    go_enter Try.func19, Try.ntmps19
    go_wp2
    repeat (go_quiet (fail); try go_wp2)
    go_loopg [10] k (fun kq v10 w' => ∃ (x10_1 : Int), v10 = .int .i64 x10_1 ∧ Aside0 (bagnallref_RowsFault.l0 kq l0 l0 (l0.length : Int) x10_1 = some r) ∧ Aside0 (kq ≤ k) ∧ Aside0 (Below w.heap.size w w'))
    case atStart => exact ⟨(0), (by first | rfl | (simp; done) | (simp [*]; done)), H', ⟨Nat.le_refl _⟩, ⟨by repeat (first | (with_reducible first | exact HB.out | apply below_alloc | apply pw_below_drewN | apply below_drew1) | exact HB.out)⟩⟩
    case round =>
      clear H'
      try clear c1
      try clear c2
      try clear c2b0
      try clear c2b1
      try clear p2
      obtain ⟨x10_1, rfl, HA, HK1, HB⟩ := hrel
      cases gk with
      | zero => exact absurd HA.out (by simp [bagnallref_RowsFault.l0])
      | succ k1 =>
        have H := HA.out
        clear HA
        simp only [bagnallref_RowsFault.l0] at H
        by_cases c3 : x10_1 < (l0.length : Int)
        · rw [if_pos c3] at H
          have c3b0 : decide (x10_1 < (l0.length : Int)) = true := decide_eq_true c3
          clear c3
          by_cases c4 : 0 ≤ x10_1
          · rw [if_pos c4] at H
            have c4b0 : decide (0 ≤ x10_1) = true := decide_eq_true c4
            clear c4
            by_cases c5 : x10_1 < (l0.length : Int)
            · rw [if_pos c5] at H
              have c5b0 : decide (x10_1 < (l0.length : Int)) = true := decide_eq_true c5
              clear c5
              have HC6 := Aside0.mk H
              clear H
              have p105 : 0 ≤ (x10_1 : Int) := of_decide_eq_true (by first | (with_reducible assumption) | assumption)
              have q105 : x10_1 < (l0.length : Int) := of_decide_eq_true (by first | (with_reducible assumption) | assumption)
              obtain ⟨ad105, e105, hx105_0, hx105_1⟩ := at_T69 HR0.out x10_1 p105 q105
              cases e105
              replace hx105_0 := (HB.out.cell (World.block_lt_of_cell? w _ hx105_0)).trans hx105_0
              replace hx105_1 := (HB.out.cell (World.block_lt_of_cell? w _ hx105_1)).trans hx105_1
              replace p105 := eq_true p105
              replace q105 := eq_true q105
              go_upto_region 6 with (first | ((with_reducible refine gate_dst (N := 4) rfl ?_); (try (refine gate_guard (by rfl) ?_; dsimp only)); refine box_event ?hg (N := 4) ?hd (cs := #[.string (⟨#[]⟩ : ByteArray), .string (⟨#[]⟩ : ByteArray)]) (t := 69) ?hr ?_; (case hd => rfl); (case hg => rfl); (case hr => first | (go_simp; done) | (go_simp; rfl)); intro gb106 hg w7 hbox hb; have n0_ := Aside0.mk (below_step (by repeat (first | (with_reducible first | exact HB.out | apply below_alloc | apply pw_below_drewN | apply below_drew1) | exact HB.out)) hb); have n1_ := Aside0.mk (hbox); have n2_ := Aside0.mk ((by rw [hg]; exact (below_size (by repeat (first | (with_reducible first | exact HB.out | apply below_alloc | apply pw_below_drewN | apply below_drew1) | exact HB.out))) : w.heap.size ≤ gb106)); have n3_ := Aside0.mk ((by rw [hg]; exact (below_size (by repeat (first | (with_reducible first | exact HB.out | apply below_alloc | apply pw_below_drewN | apply below_drew1) | exact HB.out))) : w.heap.size ≤ gb106)); clear HB; have HB := n0_; have BK106 := n1_; have GW106 := n2_; have GE106 := n3_; clear n0_ n1_ n2_ n3_; clear hb hbox hg; have hcz8_0 : w7.cell? ⟨gb106, 0, none⟩ = some (.string (⟨#[]⟩ : ByteArray)) := (blk_cell BK106.out 0).trans rfl; have hcz8_1 : w7.cell? ⟨gb106, 1, none⟩ = some (.string (⟨#[]⟩ : ByteArray)) := (blk_cell BK106.out 1).trans rfl; have hfz8_0 := blk_frozen BK106.out 0; have hfz8_1 := blk_frozen BK106.out 1))
              repeat (go_quiet (first | ((with_reducible refine gate_dst (N := 4) rfl ?_); (try (refine gate_guard (by rfl) ?_; dsimp only)); refine box_event ?hg (N := 4) ?hd (cs := #[.string (⟨#[]⟩ : ByteArray), .string (⟨#[]⟩ : ByteArray)]) (t := 69) ?hr ?_; (case hd => rfl); (case hg => rfl); (case hr => first | (go_simp; done) | (go_simp; rfl)); intro gb106 hg w7 hbox hb; have n0_ := Aside0.mk (below_step (by repeat (first | (with_reducible first | exact HB.out | apply below_alloc | apply pw_below_drewN | apply below_drew1) | exact HB.out)) hb); have n1_ := Aside0.mk (hbox); have n2_ := Aside0.mk ((by rw [hg]; exact (below_size (by repeat (first | (with_reducible first | exact HB.out | apply below_alloc | apply pw_below_drewN | apply below_drew1) | exact HB.out))) : w.heap.size ≤ gb106)); have n3_ := Aside0.mk ((by rw [hg]; exact (below_size (by repeat (first | (with_reducible first | exact HB.out | apply below_alloc | apply pw_below_drewN | apply below_drew1) | exact HB.out))) : w.heap.size ≤ gb106)); clear HB; have HB := n0_; have BK106 := n1_; have GW106 := n2_; have GE106 := n3_; clear n0_ n1_ n2_ n3_; clear hb hbox hg; have hcz8_0 : w7.cell? ⟨gb106, 0, none⟩ = some (.string (⟨#[]⟩ : ByteArray)) := (blk_cell BK106.out 0).trans rfl; have hcz8_1 : w7.cell? ⟨gb106, 1, none⟩ = some (.string (⟨#[]⟩ : ByteArray)) := (blk_cell BK106.out 1).trans rfl; have hfz8_0 := blk_frozen BK106.out 0; have hfz8_1 := blk_frozen BK106.out 1)); go_upto_region 6 with (first | ((with_reducible refine gate_dst (N := 4) rfl ?_); (try (refine gate_guard (by rfl) ?_; dsimp only)); refine box_event ?hg (N := 4) ?hd (cs := #[.string (⟨#[]⟩ : ByteArray), .string (⟨#[]⟩ : ByteArray)]) (t := 69) ?hr ?_; (case hd => rfl); (case hg => rfl); (case hr => first | (go_simp; done) | (go_simp; rfl)); intro gb106 hg w7 hbox hb; have n0_ := Aside0.mk (below_step (by repeat (first | (with_reducible first | exact HB.out | apply below_alloc | apply pw_below_drewN | apply below_drew1) | exact HB.out)) hb); have n1_ := Aside0.mk (hbox); have n2_ := Aside0.mk ((by rw [hg]; exact (below_size (by repeat (first | (with_reducible first | exact HB.out | apply below_alloc | apply pw_below_drewN | apply below_drew1) | exact HB.out))) : w.heap.size ≤ gb106)); have n3_ := Aside0.mk ((by rw [hg]; exact (below_size (by repeat (first | (with_reducible first | exact HB.out | apply below_alloc | apply pw_below_drewN | apply below_drew1) | exact HB.out))) : w.heap.size ≤ gb106)); clear HB; have HB := n0_; have BK106 := n1_; have GW106 := n2_; have GE106 := n3_; clear n0_ n1_ n2_ n3_; clear hb hbox hg; have hcz8_0 : w7.cell? ⟨gb106, 0, none⟩ = some (.string (⟨#[]⟩ : ByteArray)) := (blk_cell BK106.out 0).trans rfl; have hcz8_1 : w7.cell? ⟨gb106, 1, none⟩ = some (.string (⟨#[]⟩ : ByteArray)) := (blk_cell BK106.out 1).trans rfl; have hfz8_0 := blk_frozen BK106.out 0; have hfz8_1 := blk_frozen BK106.out 1)))
              (try simp only [Act.put, List.setIfInBounds_toArray, List.set_cons_zero, List.set_cons_succ])
              go_cut [30] (fun v30 wc => ∃ (kq : Nat) (x30_5 : Bool), v30 = .bool x30_5 ∧ Aside0 (bagnallref_RowsFault.j1 kq l0 x10_1 l0 (l0.length : Int) x10_1 x30_5 ((rd_T69 l0 x10_1).f0) ((rd_T69 l0 x10_1).f1) = some r) ∧ Aside0 (kq ≤ k1) ∧ Aside0 (wc.heap[gb106]? = some (.cells #[.string ((rd_T69 l0 x10_1).f0), .string ((rd_T69 l0 x10_1).f1)] 69 (0, 0))) ∧ Aside0 (Below w.heap.size w wc))
              case first =>
                have H := HC6.out
                clear HC6
                by_cases c9 : (((rd_T69 l0 x10_1).f0).size : Int) < 1
                · rw [if_pos c9] at H
                  have c9b0 : decide ((((rd_T69 l0 x10_1).f0).size : Int) < 1) = true := decide_eq_true c9
                  have c9b1 : decide (((rd_T69 l0 x10_1).f0).size < 1) = true := decide_eq_true (by omega)
                  clear c9
                  (first | rw [c9b0] | (simp only [i64_w, i32_w]; rw [c9b0]) | skip)
                  have H' := Aside0.mk H
                  clear H
                  have hcz10_0 : w7.cell? ⟨gb106, 0, none⟩ = some (.string (⟨#[]⟩ : ByteArray)) := (blk_cell BK106.out 0).trans rfl
                  have hcz10_1 : w7.cell? ⟨gb106, 1, none⟩ = some (.string (⟨#[]⟩ : ByteArray)) := (blk_cell BK106.out 1).trans rfl
                  have hfz10_0 := blk_frozen BK106.out 0
                  have hfz10_1 := blk_frozen BK106.out 1
                  go_wp2
                  repeat (go_quiet (fail); try go_wp2)
                  go_meet
                  case rel => exact ⟨_, (true), (by first | rfl | (simp; done) | (simp [*]; done)), H', ⟨by have := HK1.out; first | omega | exact Nat.le_refl _⟩, ⟨by (with_reducible repeat (first | refine blk_drewN ?_ _ | refine blk_drew ?_ | refine blk_alloc ?_ _)); refine blk_put (cs := #[.string ((rd_T69 l0 x10_1).f0), .string (⟨#[]⟩ : ByteArray)]) ?_ 1 _ rfl; (with_reducible repeat (first | refine blk_drewN ?_ _ | refine blk_drew ?_ | refine blk_alloc ?_ _)); refine blk_put (cs := #[.string (⟨#[]⟩ : ByteArray), .string (⟨#[]⟩ : ByteArray)]) ?_ 0 _ rfl; (with_reducible repeat (first | refine blk_drewN ?_ _ | refine blk_drew ?_ | refine blk_alloc ?_ _)); exact BK106.out⟩, ⟨by repeat (first | (with_reducible first | exact HB.out | apply below_alloc | apply pw_below_drewN | apply below_drew1 | refine below_set ?_ GE106.out) | exact HB.out)⟩⟩
                · rw [if_neg c9] at H
                  have c9b0 : decide ((((rd_T69 l0 x10_1).f0).size : Int) < 1) = false := decide_eq_false c9
                  have c9b1 : decide (((rd_T69 l0 x10_1).f0).size < 1) = false := decide_eq_false (by omega)
                  clear c9
                  (first | rw [c9b0] | (simp only [i64_w, i32_w]; rw [c9b0]) | skip)
                  by_cases c11 : (((rd_T69 l0 x10_1).f0).size : Int) > 20
                  · rw [if_pos c11] at H
                    have c11b0 : decide (20 < (((rd_T69 l0 x10_1).f0).size : Int)) = true := decide_eq_true c11
                    have c11b1 : decide (20 < ((rd_T69 l0 x10_1).f0).size) = true := decide_eq_true (by omega)
                    clear c11
                    have H' := Aside0.mk H
                    clear H
                    have hcz12_0 : w7.cell? ⟨gb106, 0, none⟩ = some (.string (⟨#[]⟩ : ByteArray)) := (blk_cell BK106.out 0).trans rfl
                    have hcz12_1 : w7.cell? ⟨gb106, 1, none⟩ = some (.string (⟨#[]⟩ : ByteArray)) := (blk_cell BK106.out 1).trans rfl
                    have hfz12_0 := blk_frozen BK106.out 0
                    have hfz12_1 := blk_frozen BK106.out 1
                    go_wp2
                    repeat (go_quiet (fail); try go_wp2)
                    go_meet
                    case rel => exact ⟨_, (true), (by first | rfl | (simp; done) | (simp [*]; done)), H', ⟨by have := HK1.out; first | omega | exact Nat.le_refl _⟩, ⟨by (with_reducible repeat (first | refine blk_drewN ?_ _ | refine blk_drew ?_ | refine blk_alloc ?_ _)); refine blk_put (cs := #[.string ((rd_T69 l0 x10_1).f0), .string (⟨#[]⟩ : ByteArray)]) ?_ 1 _ rfl; (with_reducible repeat (first | refine blk_drewN ?_ _ | refine blk_drew ?_ | refine blk_alloc ?_ _)); refine blk_put (cs := #[.string (⟨#[]⟩ : ByteArray), .string (⟨#[]⟩ : ByteArray)]) ?_ 0 _ rfl; (with_reducible repeat (first | refine blk_drewN ?_ _ | refine blk_drew ?_ | refine blk_alloc ?_ _)); exact BK106.out⟩, ⟨by repeat (first | (with_reducible first | exact HB.out | apply below_alloc | apply pw_below_drewN | apply below_drew1 | refine below_set ?_ GE106.out) | exact HB.out)⟩⟩
                  · rw [if_neg c11] at H
                    have c11b0 : decide (20 < (((rd_T69 l0 x10_1).f0).size : Int)) = false := decide_eq_false c11
                    have c11b1 : decide (20 < ((rd_T69 l0 x10_1).f0).size) = false := decide_eq_false (by omega)
                    clear c11
                    have H' := Aside0.mk H
                    clear H
                    have hcz13_0 : w7.cell? ⟨gb106, 0, none⟩ = some (.string (⟨#[]⟩ : ByteArray)) := (blk_cell BK106.out 0).trans rfl
                    have hcz13_1 : w7.cell? ⟨gb106, 1, none⟩ = some (.string (⟨#[]⟩ : ByteArray)) := (blk_cell BK106.out 1).trans rfl
                    have hfz13_0 := blk_frozen BK106.out 0
                    have hfz13_1 := blk_frozen BK106.out 1
                    go_wp2
                    repeat (go_quiet (fail); try go_wp2)
                    go_meet
                    case rel => exact ⟨_, (decide ((((rd_T69 l0 x10_1).f1).size : Int) > 20)), (by first | rfl | (simp; done) | (simp [*]; done)), H', ⟨by have := HK1.out; first | omega | exact Nat.le_refl _⟩, ⟨by (with_reducible repeat (first | refine blk_drewN ?_ _ | refine blk_drew ?_ | refine blk_alloc ?_ _)); refine blk_put (cs := #[.string ((rd_T69 l0 x10_1).f0), .string (⟨#[]⟩ : ByteArray)]) ?_ 1 _ rfl; (with_reducible repeat (first | refine blk_drewN ?_ _ | refine blk_drew ?_ | refine blk_alloc ?_ _)); refine blk_put (cs := #[.string (⟨#[]⟩ : ByteArray), .string (⟨#[]⟩ : ByteArray)]) ?_ 0 _ rfl; (with_reducible repeat (first | refine blk_drewN ?_ _ | refine blk_drew ?_ | refine blk_alloc ?_ _)); exact BK106.out⟩, ⟨by repeat (first | (with_reducible first | exact HB.out | apply below_alloc | apply pw_below_drewN | apply below_drew1 | refine below_set ?_ GE106.out) | exact HB.out)⟩⟩
              case rest =>
                clear HC6
                try clear c1
                try clear p1
                try clear q1
                try clear hx1
                try clear c2
                try clear c2b0
                try clear c2b1
                try clear p2
                try clear c3
                try clear c3b0
                try clear c4
                try clear c4b0
                try clear c5
                try clear c5b0
                try clear c9
                try clear c9b0
                try clear c9b1
                try clear p10
                try clear q10
                try clear hx10
                try clear c11
                try clear c11b0
                try clear c11b1
                try clear hcz10_0
                try clear hcz10_1
                try clear hcz12_0
                try clear hcz12_1
                try clear hcz13_0
                try clear hcz13_1
                try clear hcz8_0
                try clear hcz8_1
                try clear hfz10_0
                try clear hfz10_1
                try clear hfz12_0
                try clear hfz12_1
                try clear hfz13_0
                try clear hfz13_1
                try clear hfz8_0
                try clear hfz8_1
                try clear hx105_0
                try clear hx105_1
                try clear p105
                try clear p2
                try clear q105
                obtain ⟨kq, x30_5, rfl, HA, HJ5, BK106, HB⟩ := hcut
                cases kq with
                | zero => exact absurd HA.out (by simp [bagnallref_RowsFault.j1])
                | succ kj5 =>
                  have H := HA.out
                  clear HA
                  simp only [bagnallref_RowsFault.j1] at H
                  by_cases c14 : x30_5 = true
                  · subst c14
                    have H1 : (some 1) = some r := by rw [if_pos rfl] at H; exact H
                    clear H
                    have H := H1
                    clear H1
                    obtain rfl := Option.some.inj H
                    go_wp2
                    repeat (go_quiet (fail); try go_wp2)
                    go_ret
                    exact ⟨by first | rfl | (simp [errW_none, errW_some] <;> rfl) | (simp [*, errW_none, errW_some] <;> rfl), by repeat (first | (with_reducible first | exact HB.out | apply below_alloc | apply pw_below_drewN | apply below_drew1 | refine below_set ?_ GE106.out) | exact HB.out)⟩
                  · replace c14 := Bool.eq_false_iff.mpr c14
                    subst c14
                    have H1 : (if (((rd_T69 l0 x10_1).f1).size : Int) = 0 then (some 4) else (if x10_1 > 0 then (if 0 ≤ (wrap64 (x10_1 - 1)) then (if (wrap64 (x10_1 - 1)) < (l0.length : Int) then (if ((Op.bytesLess (((rd_T69 l0 (wrap64 (x10_1 - 1))).f0).toList) ((rd_T69 l0 x10_1).f0).toList) = true) then (bagnallref_RowsFault.l0 kj5 l0 l0 (l0.length : Int) (wrap64 (x10_1 + 1))) else (some 7)) else (none)) else (none)) else (bagnallref_RowsFault.l0 kj5 l0 l0 (l0.length : Int) (wrap64 (x10_1 + 1))))) = some r := by rw [if_neg (show ¬ (false = true) by decide)] at H; exact H
                    clear H
                    have H := H1
                    clear H1
                    by_cases c15 : (((rd_T69 l0 x10_1).f1).size : Int) = 0
                    · rw [if_pos c15] at H
                      have c15b0 : ((((rd_T69 l0 x10_1).f1).size : Int) == 0) = true := beq_iff_eq.mpr c15
                      have c15b1 : ((((rd_T69 l0 x10_1).f1).size : Int) != 0) = false := bne_eq_false_iff_eq.mpr c15
                      clear c15
                      obtain rfl := Option.some.inj H
                      have hcz16_0 : wc.cell? ⟨gb106, 0, none⟩ = some (.string ((rd_T69 l0 x10_1).f0)) := (blk_cell BK106.out 0).trans rfl
                      have hcz16_1 : wc.cell? ⟨gb106, 1, none⟩ = some (.string ((rd_T69 l0 x10_1).f1)) := (blk_cell BK106.out 1).trans rfl
                      have hfz16_0 := blk_frozen BK106.out 0
                      have hfz16_1 := blk_frozen BK106.out 1
                      go_wp2
                      repeat (go_quiet (fail); try go_wp2)
                      go_ret
                      exact ⟨by first | rfl | (simp [errW_none, errW_some] <;> rfl) | (simp [*, errW_none, errW_some] <;> rfl), by repeat (first | (with_reducible first | exact HB.out | apply below_alloc | apply pw_below_drewN | apply below_drew1 | refine below_set ?_ GE106.out) | exact HB.out)⟩
                    · rw [if_neg c15] at H
                      have c15b0 : ((((rd_T69 l0 x10_1).f1).size : Int) == 0) = false := beq_eq_false_iff_ne.mpr c15
                      have c15b1 : ((((rd_T69 l0 x10_1).f1).size : Int) != 0) = true := bne_iff_ne.mpr c15
                      by_cases c17 : x10_1 > 0
                      · rw [if_pos c17] at H
                        have c17b0 : decide (0 < x10_1) = true := decide_eq_true c17
                        clear c17
                        obtain ⟨ji18, hji18⟩ : ∃ j_ : Int, (wrap64 (x10_1 - 1)) = j_ := ⟨_, rfl⟩
                        replace H : (if 0 ≤ (ji18) then (if (ji18) < (l0.length : Int) then (if ((Op.bytesLess (((rd_T69 l0 (ji18)).f0).toList) ((rd_T69 l0 x10_1).f0).toList) = true) then (bagnallref_RowsFault.l0 kj5 l0 l0 (l0.length : Int) (wrap64 (x10_1 + 1))) else (some 7)) else (none)) else (none)) = some r := by first | (rw [hji18] at H; exact H) | (simp only [hji18] at H ⊢; exact H)
                        have hji18w : (IntKind.i64.wrap (x10_1 - 1)) = ji18 := (i64_w _).trans hji18
                        by_cases c19 : 0 ≤ (ji18)
                        · rw [if_pos c19] at H
                          have c19b0 : decide (0 ≤ (ji18)) = true := decide_eq_true c19
                          clear c19
                          by_cases c20 : (ji18) < (l0.length : Int)
                          · rw [if_pos c20] at H
                            have c20b0 : decide ((ji18) < (l0.length : Int)) = true := decide_eq_true c20
                            clear c20
                            by_cases c21 : ((Op.bytesLess (((rd_T69 l0 (ji18)).f0).toList) ((rd_T69 l0 x10_1).f0).toList) = true)
                            · rw [if_pos c21] at H
                              have c21b0 : (Op.bytesLess (((rd_T69 l0 (ji18)).f0).toList) ((rd_T69 l0 x10_1).f0).toList) = true := c21
                              clear c21
                              have H' := Aside0.mk H
                              clear H
                              have hcz22_0 : wc.cell? ⟨gb106, 0, none⟩ = some (.string ((rd_T69 l0 x10_1).f0)) := (blk_cell BK106.out 0).trans rfl
                              have hcz22_1 : wc.cell? ⟨gb106, 1, none⟩ = some (.string ((rd_T69 l0 x10_1).f1)) := (blk_cell BK106.out 1).trans rfl
                              have hfz22_0 := blk_frozen BK106.out 0
                              have hfz22_1 := blk_frozen BK106.out 1
                              have p107 : 0 ≤ ((ji18) : Int) := of_decide_eq_true (by first | (with_reducible assumption) | assumption)
                              have q107 : (ji18) < (l0.length : Int) := of_decide_eq_true (by first | (with_reducible assumption) | assumption)
                              obtain ⟨ad107, e107, hx107_0, hx107_1⟩ := at_T69 HR0.out (ji18) p107 q107
                              obtain rfl : ad105 = ad107 := (by injection e107)
                              replace hx107_0 := (HB.out.cell (World.block_lt_of_cell? w _ hx107_0)).trans hx107_0
                              replace hx107_1 := (HB.out.cell (World.block_lt_of_cell? w _ hx107_1)).trans hx107_1
                              replace p107 := eq_true p107
                              replace q107 := eq_true q107
                              go_wp2
                              repeat (go_quiet (fail); try go_wp2)
                              go_roundg kj5
                              case measure => have := HK1.out; have := HJ5.out; omega
                              case rel => exact ⟨(wrap64 (x10_1 + 1)), (by first | rfl | (simp; done) | (simp [*]; done)), H', ⟨by have := HK1.out; have := HJ5.out; omega⟩, ⟨by repeat (first | (with_reducible first | exact HB.out | apply below_alloc | apply pw_below_drewN | apply below_drew1 | refine below_set ?_ GE106.out) | exact HB.out)⟩⟩
                            · rw [if_neg c21] at H
                              have c21b0 : (Op.bytesLess (((rd_T69 l0 (ji18)).f0).toList) ((rd_T69 l0 x10_1).f0).toList) = false := by simpa using c21
                              clear c21
                              obtain rfl := Option.some.inj H
                              have hcz23_0 : wc.cell? ⟨gb106, 0, none⟩ = some (.string ((rd_T69 l0 x10_1).f0)) := (blk_cell BK106.out 0).trans rfl
                              have hcz23_1 : wc.cell? ⟨gb106, 1, none⟩ = some (.string ((rd_T69 l0 x10_1).f1)) := (blk_cell BK106.out 1).trans rfl
                              have hfz23_0 := blk_frozen BK106.out 0
                              have hfz23_1 := blk_frozen BK106.out 1
                              have p107 : 0 ≤ ((ji18) : Int) := of_decide_eq_true (by first | (with_reducible assumption) | assumption)
                              have q107 : (ji18) < (l0.length : Int) := of_decide_eq_true (by first | (with_reducible assumption) | assumption)
                              obtain ⟨ad107, e107, hx107_0, hx107_1⟩ := at_T69 HR0.out (ji18) p107 q107
                              obtain rfl : ad105 = ad107 := (by injection e107)
                              replace hx107_0 := (HB.out.cell (World.block_lt_of_cell? w _ hx107_0)).trans hx107_0
                              replace hx107_1 := (HB.out.cell (World.block_lt_of_cell? w _ hx107_1)).trans hx107_1
                              replace p107 := eq_true p107
                              replace q107 := eq_true q107
                              go_wp2
                              repeat (go_quiet (fail); try go_wp2)
                              go_ret
                              exact ⟨by first | rfl | (simp [errW_none, errW_some] <;> rfl) | (simp only [← hji18]; first | rfl | (simp [errW_none, errW_some] <;> rfl)) | (simp [*, errW_none, errW_some] <;> rfl), by repeat (first | (with_reducible first | exact HB.out | apply below_alloc | apply pw_below_drewN | apply below_drew1 | refine below_set ?_ GE106.out) | exact HB.out)⟩
                          · rw [if_neg c20] at H
                            exact absurd H (by simp)
                        · rw [if_neg c19] at H
                          exact absurd H (by simp)
                      · rw [if_neg c17] at H
                        have c17b0 : decide (0 < x10_1) = false := decide_eq_false c17
                        clear c17
                        have H' := Aside0.mk H
                        clear H
                        have hcz24_0 : wc.cell? ⟨gb106, 0, none⟩ = some (.string ((rd_T69 l0 x10_1).f0)) := (blk_cell BK106.out 0).trans rfl
                        have hcz24_1 : wc.cell? ⟨gb106, 1, none⟩ = some (.string ((rd_T69 l0 x10_1).f1)) := (blk_cell BK106.out 1).trans rfl
                        have hfz24_0 := blk_frozen BK106.out 0
                        have hfz24_1 := blk_frozen BK106.out 1
                        go_wp2
                        repeat (go_quiet (fail); try go_wp2)
                        go_roundg kj5
                        case measure => have := HK1.out; have := HJ5.out; omega
                        case rel => exact ⟨(wrap64 (x10_1 + 1)), (by first | rfl | (simp; done) | (simp [*]; done)), H', ⟨by have := HK1.out; have := HJ5.out; omega⟩, ⟨by repeat (first | (with_reducible first | exact HB.out | apply below_alloc | apply pw_below_drewN | apply below_drew1 | refine below_set ?_ GE106.out) | exact HB.out)⟩⟩
            · rw [if_neg c5] at H
              exact absurd H (by simp)
          · rw [if_neg c4] at H
            exact absurd H (by simp)
        · rw [if_neg c3] at H
          have c3b0 : decide (x10_1 < (l0.length : Int)) = false := decide_eq_false c3
          clear c3
          obtain rfl := Option.some.inj H
          go_wp2
          repeat (go_quiet (fail); try go_wp2)
          go_ret
          exact ⟨by first | rfl | (simp [errW_none, errW_some] <;> rfl) | (simp [*, errW_none, errW_some] <;> rfl), by repeat (first | (with_reducible first | exact HB.out | apply below_alloc | apply pw_below_drewN | apply below_drew1) | exact HB.out)⟩

/-! ### bagnalllaw_RowsChecks: function 4 -/
def bagnalllaw_RowsChecks.f (k : Nat) (l0 : List (S69)) : Option (Bool) := (rows_Check.f k l0).bind fun t108 => ((bagnallref_RowsFault.f k l0).bind fun t109 => (some (t108 == t109)))
theorem bagnalllaw_RowsChecks.mono : ∀ a0 k, LeO (bagnalllaw_RowsChecks.f k a0) (bagnalllaw_RowsChecks.f (k + 1) a0) := by
  intro a0 k
  unfold bagnalllaw_RowsChecks.f
  repeat' first
      | (with_reducible exact bagnallref_RowsFault.mono _ _)
      | (with_reducible exact rows_Check.mono _ _)
      | (with_reducible exact LeO.refl _)
      | (with_reducible exact LeO.none _)
      | (with_reducible refine LeO.ite ?_ ?_)
      | (with_reducible refine LeO.bind ?_ (fun _ => ?_))
      | exact bagnallref_RowsFault.mono _ _
      | exact rows_Check.mono _ _
      | exact LeO.none _
      | refine LeO.ite ?_ ?_
      | refine LeO.bind ?_ (fun _ => ?_)
set_option maxHeartbeats 8000000 in
set_option maxRecDepth 100000 in
theorem bagnalllaw_RowsChecks.calls (k : Nat) (A0 : Option Addr) (c0 : Nat) (l0 : List (S69)) (r : Bool) (w : World) (hr0 : Kd.C k69 w A0 l0.length l0) (hc0 : l0.length ≤ c0) (h : bagnalllaw_RowsChecks.f k l0 = some r) :
    Calls Try.prog 4 #[.slice A0 l0.length c0] w fun e w' => e = .returned (.bool r) ∧ Below w.heap.size w w' := by
  have HR0 := Aside0.mk hr0
  have HC0 := Aside0.mk hc0
  clear hr0 hc0
  have HB := Aside0.mk (Below.refl w.heap.size w)
  have H : ((rows_Check.f k l0).bind fun t108 => ((bagnallref_RowsFault.f k l0).bind fun t109 => (some (t108 == t109)))) = some r := h
  clear h
  replace H := Option.bind_eq_some_iff.mp H
  obtain ⟨t108, A20, H⟩ := H
  replace H : ((bagnallref_RowsFault.f k l0).bind fun t109 => (some (t108 == t109))) = some r := H
  have A2 := Aside0.mk A20
  clear A20
  replace H := Option.bind_eq_some_iff.mp H
  obtain ⟨t109, A30, H⟩ := H
  replace H : (some (t108 == t109)) = some r := H
  have A3 := Aside0.mk A30
  clear A30
  obtain rfl := Option.some.inj H
  go_enter Try.func4, Try.ntmps4
  go_wp2_with (first | ((with_reducible refine gate_callee (f := 18) rfl ?_); refine goesL_ (some 4) rfl rfl Try.func18 (by kernel_rfl) rfl #[.slice A0 l0.length c0] rfl (by (try simp only [List.map_toArray, List.map_cons, List.map_nil]); first | done | rfl | (simp only [List.length_drop, List.length_take]; rfl)) ?_; (with_reducible refine (rows_Check.calls k _ _ l0 t108 _ ?side1 ?side2 A2.out).mono ?_); (case side1 => repeat (first | exact HR0.out | (with_reducible refine Kd.C_alloc ?_ _) | (with_reducible refine Kd.C_drewN ?_ _) | (with_reducible refine Kd.C_drew ?_))); (case side2 => exact HC0.out); rintro e w4 ⟨rfl, hb⟩; refine ⟨_, rfl, ?_⟩; have n0_ := Aside0.mk (below_step (by repeat (first | (with_reducible first | exact HB.out | apply below_alloc | apply pw_below_drewN | apply below_drew1) | exact HB.out)) hb); clear HB; have HB := n0_; clear n0_; (try clear hb); (try clear hb2); (try clear hk); (try clear hi)) | ((with_reducible refine gate_callee (f := 19) rfl ?_); refine goesL_ (some 6) rfl rfl Try.func19 (by kernel_rfl) rfl #[.slice A0 l0.length c0] rfl (by (try simp only [List.map_toArray, List.map_cons, List.map_nil]); first | done | rfl | (simp only [List.length_drop, List.length_take]; rfl)) ?_; (with_reducible refine (bagnallref_RowsFault.calls k _ _ l0 t109 _ ?side1 ?side2 A3.out).mono ?_); (case side1 => repeat (first | exact (Kd.C_below HR0.out HB.out) | (with_reducible refine Kd.C_alloc ?_ _) | (with_reducible refine Kd.C_drewN ?_ _) | (with_reducible refine Kd.C_drew ?_))); (case side2 => exact HC0.out); rintro e w5 ⟨rfl, hb⟩; refine ⟨_, rfl, ?_⟩; have n0_ := Aside0.mk (below_step (by repeat (first | (with_reducible first | exact HB.out | apply below_alloc | apply pw_below_drewN | apply below_drew1) | exact HB.out)) hb); clear HB; have HB := n0_; clear n0_; (try clear hb); (try clear hb2); (try clear hk); (try clear hi)))
  go_ret
  exact ⟨by first | rfl | (simp [errW_none, errW_some] <;> rfl) | (simp [*, errW_none, errW_some] <;> rfl), by repeat (first | (with_reducible first | exact HB.out | apply below_alloc | apply pw_below_drewN | apply below_drew1) | exact HB.out)⟩

end Go.Proofs.Ytnjidfgjldkkcaa.Q
