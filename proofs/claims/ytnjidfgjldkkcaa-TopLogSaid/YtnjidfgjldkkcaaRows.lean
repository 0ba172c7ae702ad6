/-
  No cell of these rows narrows 'for every input' (looked for: loops, veiled, ifaces, maps, wideKeys, modest, calm, conditions, laid).
  DERIVED. THE GIVEN ROWS OF THIS SEAT. 13 by the template 'for every input the law returns true; each argument reads behind the call as it read before'; 0 by the template 'total and deterministic' (their statements: YtnjidfgjldkkcaaTotals.lean).
  GIVEN WITH THE SEED: the statements are not yours to turn. If you find one false, say at which input.
  Laid BY PROGRAM, IN A SANDBOX (cutbox-rows.mjs): the forced cells as the released guide's own fill.sh prints them over the translation 3ec76629450dea6d… (all of the seat's roots in one cut). By AI agents, Wed Nov 11 2026. No macro, syntax, notation, axiom, sorry.
-/
import Derived.Test.YtnjidfgjldkkcaaChecked
import GoSem.Claim
import GoSem.ClaimJoined
import GoSem.ClaimMapViews
import Derived.JoinedTies
import Derived.KernelRfl
namespace Go.Proofs.Ytnjidfgjldkkcaa
/- THE CELL 'sum', in the pinned program and in every row, IS THE sha256 OF THE DUMP (.gsa) THAT YtnjidfgjldkkcaaProg.lean LOADS. Nothing in Lean hashes anything: it is a label: what it is worth is what the hold of that sum in a sandbox is worth. -/
noncomputable def Try.pinned : Pinned := { name := "ytnjidfgjldkkcaa", sum := "3ec76629450dea6dea4d87cf2aa6b88b44e7fc6716ea546e1233aef6237595c0", checked := Try.checked }
namespace Rows
def none {H : Type} : Left H := { results := [], args := [] }

/-- 'bagnalllaw.RowsNexts': WHATEVER THE INPUT: true; the input reads as it did. -/
def rowsNextsSpec : ChangeSpec := { name := "rowsNexts", fn := fun _ => fun
  | [d] => { results := [.lit (.bool true)], args := [d] }
  | _ => none }
def rowsNextsRow : OpenClaim := { program := "ytnjidfgjldkkcaa", sum := "3ec76629450dea6dea4d87cf2aa6b88b44e7fc6716ea546e1233aef6237595c0", func := "bagnall/bagnalllaw.RowsNexts", spec := "rowsNexts", apart := false }
def RowsNextsSaid : Prop := rowsNextsRow.holds Try.pinned (OpenSpec.ofChange rowsNextsSpec)

/-- ITS FALSE NEIGHBOUR: 'it returns false'. Refute it at one input. -/
def rowsNextsWrong : ChangeSpec := { name := "rowsNexts", fn := fun _ => fun
  | [d] => { results := [.lit (.bool false)], args := [d] }
  | _ => none }
def RowsNextsWrongFalsely : Prop := rowsNextsRow.holds Try.pinned (OpenSpec.ofChange rowsNextsWrong)

/-- 'bagnalllaw.RowsChecks': WHATEVER THE INPUT: true; the input reads as it did. -/
def rowsChecksSpec : ChangeSpec := { name := "rowsChecks", fn := fun _ => fun
  | [d] => { results := [.lit (.bool true)], args := [d] }
  | _ => none }
def rowsChecksRow : OpenClaim := { program := "ytnjidfgjldkkcaa", sum := "3ec76629450dea6dea4d87cf2aa6b88b44e7fc6716ea546e1233aef6237595c0", func := "bagnall/bagnalllaw.RowsChecks", spec := "rowsChecks", apart := false }
def RowsChecksSaid : Prop := rowsChecksRow.holds Try.pinned (OpenSpec.ofChange rowsChecksSpec)

/-- ITS FALSE NEIGHBOUR: 'it returns false'. Refute it at one input. -/
def rowsChecksWrong : ChangeSpec := { name := "rowsChecks", fn := fun _ => fun
  | [d] => { results := [.lit (.bool false)], args := [d] }
  | _ => none }
def RowsChecksWrongFalsely : Prop := rowsChecksRow.holds Try.pinned (OpenSpec.ofChange rowsChecksWrong)

/-- 'bagnalllaw.RowsFinds': WHATEVER THE INPUT: true; the input reads as it did. -/
def rowsFindsSpec : ChangeSpec := { name := "rowsFinds", fn := fun _ => fun
  | [d1, d2] => { results := [.lit (.bool true)], args := [d1, d2] }
  | _ => none }
def rowsFindsRow : OpenClaim := { program := "ytnjidfgjldkkcaa", sum := "3ec76629450dea6dea4d87cf2aa6b88b44e7fc6716ea546e1233aef6237595c0", func := "bagnall/bagnalllaw.RowsFinds", spec := "rowsFinds", unfollowed := true, recurses := true, apart := false }
def RowsFindsSaid : Prop := rowsFindsRow.holds Try.pinned (OpenSpec.ofChange rowsFindsSpec)

/-- ITS FALSE NEIGHBOUR: 'it returns false'. Refute it at one input. -/
def rowsFindsWrong : ChangeSpec := { name := "rowsFinds", fn := fun _ => fun
  | [d1, d2] => { results := [.lit (.bool false)], args := [d1, d2] }
  | _ => none }
def RowsFindsWrongFalsely : Prop := rowsFindsRow.holds Try.pinned (OpenSpec.ofChange rowsFindsWrong)

/-- 'bagnalllaw.RowsBegins': WHATEVER THE INPUT: true; the input reads as it did. -/
def rowsBeginsSpec : ChangeSpec := { name := "rowsBegins", fn := fun _ => fun
  | [d1, d2] => { results := [.lit (.bool true)], args := [d1, d2] }
  | _ => none }
def rowsBeginsRow : OpenClaim := { program := "ytnjidfgjldkkcaa", sum := "3ec76629450dea6dea4d87cf2aa6b88b44e7fc6716ea546e1233aef6237595c0", func := "bagnall/bagnalllaw.RowsBegins", spec := "rowsBegins", unfollowed := true, recurses := true, apart := false }
def RowsBeginsSaid : Prop := rowsBeginsRow.holds Try.pinned (OpenSpec.ofChange rowsBeginsSpec)

/-- ITS FALSE NEIGHBOUR: 'it returns false'. Refute it at one input. -/
def rowsBeginsWrong : ChangeSpec := { name := "rowsBegins", fn := fun _ => fun
  | [d1, d2] => { results := [.lit (.bool false)], args := [d1, d2] }
  | _ => none }
def RowsBeginsWrongFalsely : Prop := rowsBeginsRow.holds Try.pinned (OpenSpec.ofChange rowsBeginsWrong)

/-- 'bagnalllaw.RowsSets': WHATEVER THE INPUT: true; the input reads as it did. -/
def rowsSetsSpec : ChangeSpec := { name := "rowsSets", fn := fun _ => fun
  | [d1, d2] => { results := [.lit (.bool true)], args := [d1, d2] }
  | _ => none }
def rowsSetsRow : OpenClaim := { program := "ytnjidfgjldkkcaa", sum := "3ec76629450dea6dea4d87cf2aa6b88b44e7fc6716ea546e1233aef6237595c0", func := "bagnall/bagnalllaw.RowsSets", spec := "rowsSets", inPlace := ["slices.overlaps[bagnall/api.Row]"], unfollowed := true, recurses := true, apart := false }
def RowsSetsSaid : Prop := rowsSetsRow.holds Try.pinned (OpenSpec.ofChange rowsSetsSpec)

/-- ITS FALSE NEIGHBOUR: 'it returns false'. Refute it at one input. -/
def rowsSetsWrong : ChangeSpec := { name := "rowsSets", fn := fun _ => fun
  | [d1, d2] => { results := [.lit (.bool false)], args := [d1, d2] }
  | _ => none }
def RowsSetsWrongFalsely : Prop := rowsSetsRow.holds Try.pinned (OpenSpec.ofChange rowsSetsWrong)

/-- 'bagnalllaw.WalPacks': WHATEVER THE INPUT: true; the input reads as it did. -/
def walPacksSpec : ChangeSpec := { name := "walPacks", fn := fun _ => fun
  | [d] => { results := [.lit (.bool true)], args := [d] }
  | _ => none }
def walPacksRow : OpenClaim := { program := "ytnjidfgjldkkcaa", sum := "3ec76629450dea6dea4d87cf2aa6b88b44e7fc6716ea546e1233aef6237595c0", func := "bagnall/bagnalllaw.WalPacks", spec := "walPacks", unfollowed := true, recurses := true, apart := false }
def WalPacksSaid : Prop := walPacksRow.holds Try.pinned (OpenSpec.ofChange walPacksSpec)

/-- ITS FALSE NEIGHBOUR: 'it returns false'. Refute it at one input. -/
def walPacksWrong : ChangeSpec := { name := "walPacks", fn := fun _ => fun
  | [d] => { results := [.lit (.bool false)], args := [d] }
  | _ => none }
def WalPacksWrongFalsely : Prop := walPacksRow.holds Try.pinned (OpenSpec.ofChange walPacksWrong)

/-- 'bagnalllaw.WalScans': WHATEVER THE INPUT: true; the input reads as it did. -/
def walScansSpec : ChangeSpec := { name := "walScans", fn := fun _ => fun
  | [d] => { results := [.lit (.bool true)], args := [d] }
  | _ => none }
def walScansRow : OpenClaim := { program := "ytnjidfgjldkkcaa", sum := "3ec76629450dea6dea4d87cf2aa6b88b44e7fc6716ea546e1233aef6237595c0", func := "bagnall/bagnalllaw.WalScans", spec := "walScans", apart := false }
def WalScansSaid : Prop := walScansRow.holds Try.pinned (OpenSpec.ofChange walScansSpec)

/-- ITS FALSE NEIGHBOUR: 'it returns false'. Refute it at one input. -/
def walScansWrong : ChangeSpec := { name := "walScans", fn := fun _ => fun
  | [d] => { results := [.lit (.bool false)], args := [d] }
  | _ => none }
def WalScansWrongFalsely : Prop := walScansRow.holds Try.pinned (OpenSpec.ofChange walScansWrong)

/-- 'bagnalllaw.DiskHelds': WHATEVER THE INPUT: true; the input reads as it did. -/
def diskHeldsSpec : ChangeSpec := { name := "diskHelds", fn := fun _ => fun
  | [d] => { results := [.lit (.bool true)], args := [d] }
  | _ => none }
def diskHeldsRow : OpenClaim := { program := "ytnjidfgjldkkcaa", sum := "3ec76629450dea6dea4d87cf2aa6b88b44e7fc6716ea546e1233aef6237595c0", func := "bagnall/bagnalllaw.DiskHelds", spec := "diskHelds", apart := false }
def DiskHeldsSaid : Prop := diskHeldsRow.holds Try.pinned (OpenSpec.ofChange diskHeldsSpec)

/-- ITS FALSE NEIGHBOUR: 'it returns false'. Refute it at one input. -/
def diskHeldsWrong : ChangeSpec := { name := "diskHelds", fn := fun _ => fun
  | [d] => { results := [.lit (.bool false)], args := [d] }
  | _ => none }
def DiskHeldsWrongFalsely : Prop := diskHeldsRow.holds Try.pinned (OpenSpec.ofChange diskHeldsWrong)

/-- 'bagnalllaw.DiskPlays': WHATEVER THE INPUT: true; the input reads as it did. -/
def diskPlaysSpec : ChangeSpec := { name := "diskPlays", fn := fun _ => fun
  | [d] => { results := [.lit (.bool true)], args := [d] }
  | _ => none }
def diskPlaysRow : OpenClaim := { program := "ytnjidfgjldkkcaa", sum := "3ec76629450dea6dea4d87cf2aa6b88b44e7fc6716ea546e1233aef6237595c0", func := "bagnall/bagnalllaw.DiskPlays", spec := "diskPlays", apart := false }
def DiskPlaysSaid : Prop := diskPlaysRow.holds Try.pinned (OpenSpec.ofChange diskPlaysSpec)

/-- ITS FALSE NEIGHBOUR: 'it returns false'. Refute it at one input. -/
def diskPlaysWrong : ChangeSpec := { name := "diskPlays", fn := fun _ => fun
  | [d] => { results := [.lit (.bool false)], args := [d] }
  | _ => none }
def DiskPlaysWrongFalsely : Prop := diskPlaysRow.holds Try.pinned (OpenSpec.ofChange diskPlaysWrong)

/-- 'bagnalllaw.StoreRecovers': WHATEVER THE INPUT: true; the input reads as it did. -/
def storeRecoversSpec : ChangeSpec := { name := "storeRecovers", fn := fun _ => fun
  | [d] => { results := [.lit (.bool true)], args := [d] }
  | _ => none }
def storeRecoversRow : OpenClaim := { program := "ytnjidfgjldkkcaa", sum := "3ec76629450dea6dea4d87cf2aa6b88b44e7fc6716ea546e1233aef6237595c0", func := "bagnall/bagnalllaw.StoreRecovers", spec := "storeRecovers", inPlace := ["slices.overlaps[bagnall/api.Row]"], unfollowed := true, recurses := true, apart := false }
def StoreRecoversSaid : Prop := storeRecoversRow.holds Try.pinned (OpenSpec.ofChange storeRecoversSpec)

/-- ITS FALSE NEIGHBOUR: 'it returns false'. Refute it at one input. -/
def storeRecoversWrong : ChangeSpec := { name := "storeRecovers", fn := fun _ => fun
  | [d] => { results := [.lit (.bool false)], args := [d] }
  | _ => none }
def StoreRecoversWrongFalsely : Prop := storeRecoversRow.holds Try.pinned (OpenSpec.ofChange storeRecoversWrong)

/-- 'bagnalllaw.StorePlays': WHATEVER THE INPUT: true; the input reads as it did. -/
def storePlaysSpec : ChangeSpec := { name := "storePlays", fn := fun _ => fun
  | [d] => { results := [.lit (.bool true)], args := [d] }
  | _ => none }
def storePlaysRow : OpenClaim := { program := "ytnjidfgjldkkcaa", sum := "3ec76629450dea6dea4d87cf2aa6b88b44e7fc6716ea546e1233aef6237595c0", func := "bagnall/bagnalllaw.StorePlays", spec := "storePlays", inPlace := ["slices.overlaps[bagnall/api.Row]"], unfollowed := true, recurses := true, apart := false }
def StorePlaysSaid : Prop := storePlaysRow.holds Try.pinned (OpenSpec.ofChange storePlaysSpec)

/-- ITS FALSE NEIGHBOUR: 'it returns false'. Refute it at one input. -/
def storePlaysWrong : ChangeSpec := { name := "storePlays", fn := fun _ => fun
  | [d] => { results := [.lit (.bool false)], args := [d] }
  | _ => none }
def StorePlaysWrongFalsely : Prop := storePlaysRow.holds Try.pinned (OpenSpec.ofChange storePlaysWrong)

/-- 'bagnalltop.TopLog': WHATEVER THE INPUT: true; the input reads as it did. -/
def topLogSpec : ChangeSpec := { name := "topLog", fn := fun _ => fun
  | [d] => { results := [.lit (.bool true)], args := [d] }
  | _ => none }
def topLogRow : OpenClaim := { program := "ytnjidfgjldkkcaa", sum := "3ec76629450dea6dea4d87cf2aa6b88b44e7fc6716ea546e1233aef6237595c0", func := "bagnall/bagnalltop.TopLog", spec := "topLog", inPlace := ["slices.overlaps[bagnall/api.Row]"], unfollowed := true, recurses := true, apart := false }
def TopLogSaid : Prop := topLogRow.holds Try.pinned (OpenSpec.ofChange topLogSpec)

/-- ITS FALSE NEIGHBOUR: 'it returns false'. Refute it at one input. -/
def topLogWrong : ChangeSpec := { name := "topLog", fn := fun _ => fun
  | [d] => { results := [.lit (.bool false)], args := [d] }
  | _ => none }
def TopLogWrongFalsely : Prop := topLogRow.holds Try.pinned (OpenSpec.ofChange topLogWrong)

/-- 'bagnalltop.TopDisk': WHATEVER THE INPUT: true; the input reads as it did. -/
def topDiskSpec : ChangeSpec := { name := "topDisk", fn := fun _ => fun
  | [d1, d2, d3] => { results := [.lit (.bool true)], args := [d1, d2, d3] }
  | _ => none }
def topDiskRow : OpenClaim := { program := "ytnjidfgjldkkcaa", sum := "3ec76629450dea6dea4d87cf2aa6b88b44e7fc6716ea546e1233aef6237595c0", func := "bagnall/bagnalltop.TopDisk", spec := "topDisk", inPlace := ["slices.overlaps[bagnall/api.Row]"], unfollowed := true, recurses := true, apart := false }
def TopDiskSaid : Prop := topDiskRow.holds Try.pinned (OpenSpec.ofChange topDiskSpec)

/-- ITS FALSE NEIGHBOUR: 'it returns false'. Refute it at one input. -/
def topDiskWrong : ChangeSpec := { name := "topDisk", fn := fun _ => fun
  | [d1, d2, d3] => { results := [.lit (.bool false)], args := [d1, d2, d3] }
  | _ => none }
def TopDiskWrongFalsely : Prop := topDiskRow.holds Try.pinned (OpenSpec.ofChange topDiskWrong)

/- THE SECOND FORM. 'bulk': how many values and letters a reading holds, each counted each time it is reached (what is shared counts as often as it is met; a slice's spare places count too). A statement '..UptoSaid' is the law's where the arguments, and the package variables that the reading takes, are together of bulk at most 1048576: NARROWER than '..Said'. Prove '..Said' where nothing that the law and all that it calls make is longer than what came in: it says more and counts as full. Else prove '..UptoSaid'. A law counts once. -/
mutual
def uptoBulk {H : Type} : DataW H → Nat
  | .lit (.string bytes) => bytes.length + 1
  | .lit _ => 1
  | .nil => 1
  | .ptr d => uptoBulk d + 1
  | .slice elems spare => uptoBulkAll elems + uptoBulkAll spare + 1
  | .agg parts => uptoBulkAll parts + 1
  | .iface _ d => uptoBulk d + 1
  | .map entries => uptoBulkEntries entries + 1
  | .held _ => 1
def uptoBulkAll {H : Type} : List (DataW H) → Nat
  | [] => 0
  | d :: r => uptoBulk d + uptoBulkAll r
def uptoBulkEntries {H : Type} : List (Lit × DataW H) → Nat
  | [] => 0
  | x :: r => uptoBulkEntry x + uptoBulkEntries r
def uptoBulkEntry {H : Type} : Lit × DataW H → Nat
  | (.string bytes, d) => bytes.length + uptoBulk d + 1
  | (_, d) => uptoBulk d + 1
 end
def uptoSmall : (H : Type) → List (DataW H) → Bool := fun _ ds => decide (uptoBulkAll ds ≤ 1048576)
def OpenSpec.upto (s : _root_.Go.ChangeSpec) : _root_.Go.OpenSpec := { _root_.Go.OpenSpec.ofChange s with cond := some uptoSmall }

/-- 'bagnalllaw.RowsNexts', WHERE WHAT IT READS IS OF BULK AT MOST 1048576: true; the input reads as it did. -/
def rowsNextsUptoRow : OpenClaim := { program := "ytnjidfgjldkkcaa", sum := "3ec76629450dea6dea4d87cf2aa6b88b44e7fc6716ea546e1233aef6237595c0", func := "bagnall/bagnalllaw.RowsNexts", spec := "rowsNexts", apart := false, narrowed := true }
def RowsNextsUptoSaid : Prop := rowsNextsUptoRow.holds Try.pinned (OpenSpec.upto rowsNextsSpec)

/-- 'bagnalllaw.RowsChecks', WHERE WHAT IT READS IS OF BULK AT MOST 1048576: true; the input reads as it did. -/
def rowsChecksUptoRow : OpenClaim := { program := "ytnjidfgjldkkcaa", sum := "3ec76629450dea6dea4d87cf2aa6b88b44e7fc6716ea546e1233aef6237595c0", func := "bagnall/bagnalllaw.RowsChecks", spec := "rowsChecks", apart := false, narrowed := true }
def RowsChecksUptoSaid : Prop := rowsChecksUptoRow.holds Try.pinned (OpenSpec.upto rowsChecksSpec)

/-- 'bagnalllaw.RowsFinds', WHERE WHAT IT READS IS OF BULK AT MOST 1048576: true; the input reads as it did. -/
def rowsFindsUptoRow : OpenClaim := { program := "ytnjidfgjldkkcaa", sum := "3ec76629450dea6dea4d87cf2aa6b88b44e7fc6716ea546e1233aef6237595c0", func := "bagnall/bagnalllaw.RowsFinds", spec := "rowsFinds", unfollowed := true, recurses := true, apart := false, narrowed := true }
def RowsFindsUptoSaid : Prop := rowsFindsUptoRow.holds Try.pinned (OpenSpec.upto rowsFindsSpec)

/-- 'bagnalllaw.RowsBegins', WHERE WHAT IT READS IS OF BULK AT MOST 1048576: true; the input reads as it did. -/
def rowsBeginsUptoRow : OpenClaim := { program := "ytnjidfgjldkkcaa", sum := "3ec76629450dea6dea4d87cf2aa6b88b44e7fc6716ea546e1233aef6237595c0", func := "bagnall/bagnalllaw.RowsBegins", spec := "rowsBegins", unfollowed := true, recurses := true, apart := false, narrowed := true }
def RowsBeginsUptoSaid : Prop := rowsBeginsUptoRow.holds Try.pinned (OpenSpec.upto rowsBeginsSpec)

/-- 'bagnalllaw.RowsSets', WHERE WHAT IT READS IS OF BULK AT MOST 1048576: true; the input reads as it did. -/
def rowsSetsUptoRow : OpenClaim := { program := "ytnjidfgjldkkcaa", sum := "3ec76629450dea6dea4d87cf2aa6b88b44e7fc6716ea546e1233aef6237595c0", func := "bagnall/bagnalllaw.RowsSets", spec := "rowsSets", inPlace := ["slices.overlaps[bagnall/api.Row]"], unfollowed := true, recurses := true, apart := false, narrowed := true }
def RowsSetsUptoSaid : Prop := rowsSetsUptoRow.holds Try.pinned (OpenSpec.upto rowsSetsSpec)

/-- 'bagnalllaw.WalPacks', WHERE WHAT IT READS IS OF BULK AT MOST 1048576: true; the input reads as it did. -/
def walPacksUptoRow : OpenClaim := { program := "ytnjidfgjldkkcaa", sum := "3ec76629450dea6dea4d87cf2aa6b88b44e7fc6716ea546e1233aef6237595c0", func := "bagnall/bagnalllaw.WalPacks", spec := "walPacks", unfollowed := true, recurses := true, apart := false, narrowed := true }
def WalPacksUptoSaid : Prop := walPacksUptoRow.holds Try.pinned (OpenSpec.upto walPacksSpec)

/-- 'bagnalllaw.WalScans', WHERE WHAT IT READS IS OF BULK AT MOST 1048576: true; the input reads as it did. -/
def walScansUptoRow : OpenClaim := { program := "ytnjidfgjldkkcaa", sum := "3ec76629450dea6dea4d87cf2aa6b88b44e7fc6716ea546e1233aef6237595c0", func := "bagnall/bagnalllaw.WalScans", spec := "walScans", apart := false, narrowed := true }
def WalScansUptoSaid : Prop := walScansUptoRow.holds Try.pinned (OpenSpec.upto walScansSpec)

/-- 'bagnalllaw.DiskHelds', WHERE WHAT IT READS IS OF BULK AT MOST 1048576: true; the input reads as it did. -/
def diskHeldsUptoRow : OpenClaim := { program := "ytnjidfgjldkkcaa", sum := "3ec76629450dea6dea4d87cf2aa6b88b44e7fc6716ea546e1233aef6237595c0", func := "bagnall/bagnalllaw.DiskHelds", spec := "diskHelds", apart := false, narrowed := true }
def DiskHeldsUptoSaid : Prop := diskHeldsUptoRow.holds Try.pinned (OpenSpec.upto diskHeldsSpec)

/-- 'bagnalllaw.DiskPlays', WHERE WHAT IT READS IS OF BULK AT MOST 1048576: true; the input reads as it did. -/
def diskPlaysUptoRow : OpenClaim := { program := "ytnjidfgjldkkcaa", sum := "3ec76629450dea6dea4d87cf2aa6b88b44e7fc6716ea546e1233aef6237595c0", func := "bagnall/bagnalllaw.DiskPlays", spec := "diskPlays", apart := false, narrowed := true }
def DiskPlaysUptoSaid : Prop := diskPlaysUptoRow.holds Try.pinned (OpenSpec.upto diskPlaysSpec)

/-- 'bagnalllaw.StoreRecovers', WHERE WHAT IT READS IS OF BULK AT MOST 1048576: true; the input reads as it did. -/
def storeRecoversUptoRow : OpenClaim := { program := "ytnjidfgjldkkcaa", sum := "3ec76629450dea6dea4d87cf2aa6b88b44e7fc6716ea546e1233aef6237595c0", func := "bagnall/bagnalllaw.StoreRecovers", spec := "storeRecovers", inPlace := ["slices.overlaps[bagnall/api.Row]"], unfollowed := true, recurses := true, apart := false, narrowed := true }
def StoreRecoversUptoSaid : Prop := storeRecoversUptoRow.holds Try.pinned (OpenSpec.upto storeRecoversSpec)

/-- 'bagnalllaw.StorePlays', WHERE WHAT IT READS IS OF BULK AT MOST 1048576: true; the input reads as it did. -/
def storePlaysUptoRow : OpenClaim := { program := "ytnjidfgjldkkcaa", sum := "3ec76629450dea6dea4d87cf2aa6b88b44e7fc6716ea546e1233aef6237595c0", func := "bagnall/bagnalllaw.StorePlays", spec := "storePlays", inPlace := ["slices.overlaps[bagnall/api.Row]"], unfollowed := true, recurses := true, apart := false, narrowed := true }
def StorePlaysUptoSaid : Prop := storePlaysUptoRow.holds Try.pinned (OpenSpec.upto storePlaysSpec)

/-- 'bagnalltop.TopLog', WHERE WHAT IT READS IS OF BULK AT MOST 1048576: true; the input reads as it did. -/
def topLogUptoRow : OpenClaim := { program := "ytnjidfgjldkkcaa", sum := "3ec76629450dea6dea4d87cf2aa6b88b44e7fc6716ea546e1233aef6237595c0", func := "bagnall/bagnalltop.TopLog", spec := "topLog", inPlace := ["slices.overlaps[bagnall/api.Row]"], unfollowed := true, recurses := true, apart := false, narrowed := true }
def TopLogUptoSaid : Prop := topLogUptoRow.holds Try.pinned (OpenSpec.upto topLogSpec)

/-- 'bagnalltop.TopDisk', WHERE WHAT IT READS IS OF BULK AT MOST 1048576: true; the input reads as it did. -/
def topDiskUptoRow : OpenClaim := { program := "ytnjidfgjldkkcaa", sum := "3ec76629450dea6dea4d87cf2aa6b88b44e7fc6716ea546e1233aef6237595c0", func := "bagnall/bagnalltop.TopDisk", spec := "topDisk", inPlace := ["slices.overlaps[bagnall/api.Row]"], unfollowed := true, recurses := true, apart := false, narrowed := true }
def TopDiskUptoSaid : Prop := topDiskUptoRow.holds Try.pinned (OpenSpec.upto topDiskSpec)

end Rows
end Go.Proofs.Ytnjidfgjldkkcaa
