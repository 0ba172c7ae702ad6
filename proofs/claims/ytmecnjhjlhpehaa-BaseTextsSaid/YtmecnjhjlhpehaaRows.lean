/-
  No cell of these rows narrows 'for every input' (looked for: loops, veiled, ifaces, maps, wideKeys, modest, calm, conditions, laid).
  DERIVED. THE GIVEN ROWS OF THIS SEAT. 2 by the template 'for every input the law returns true; each argument reads behind the call as it read before'; 0 by the template 'total and deterministic' (their statements: YtmecnjhjlhpehaaTotals.lean).
  GIVEN WITH THE SEED: the statements are not yours to turn. If you find one false, say at which input.
  Laid BY PROGRAM, IN A SANDBOX (cutbox-rows.mjs): the forced cells as the released guide's own fill.sh prints them over the translation 97f52ef298137452… (all of the seat's roots in one cut). By AI agents, Wed Nov 11 2026. No macro, syntax, notation, axiom, sorry.
-/
import Derived.Test.YtmecnjhjlhpehaaChecked
import GoSem.Claim
import GoSem.ClaimJoined
import GoSem.ClaimMapViews
import Derived.JoinedTies
import Derived.KernelRfl
namespace Go.Proofs.Ytmecnjhjlhpehaa
/- THE CELL 'sum', in the pinned program and in every row, IS THE sha256 OF THE DUMP (.gsa) THAT YtmecnjhjlhpehaaProg.lean LOADS. Nothing in Lean hashes anything: it is a label: what it is worth is what the hold of that sum in a sandbox is worth. -/
noncomputable def Try.pinned : Pinned := { name := "ytmecnjhjlhpehaa", sum := "97f52ef298137452700a4027e4281f00b809abf0d23a9b9be92cc6e1f1891a7c", checked := Try.checked }
namespace Rows
def none {H : Type} : Left H := { results := [], args := [] }

/-- 'bagnalllaw.BaseTexts': WHATEVER THE INPUT: true; the input reads as it did. -/
def baseTextsSpec : ChangeSpec := { name := "baseTexts", fn := fun _ => fun
  | [d] => { results := [.lit (.bool true)], args := [d] }
  | _ => none }
def baseTextsRow : OpenClaim := { program := "ytmecnjhjlhpehaa", sum := "97f52ef298137452700a4027e4281f00b809abf0d23a9b9be92cc6e1f1891a7c", func := "bagnall/bagnalllaw.BaseTexts", spec := "baseTexts", inPlace := ["internal/abi.NoEscape"], apart := false }
def BaseTextsSaid : Prop := baseTextsRow.holds Try.pinned (OpenSpec.ofChange baseTextsSpec)

/-- ITS FALSE NEIGHBOUR: 'it returns false'. Refute it at one input. -/
def baseTextsWrong : ChangeSpec := { name := "baseTexts", fn := fun _ => fun
  | [d] => { results := [.lit (.bool false)], args := [d] }
  | _ => none }
def BaseTextsWrongFalsely : Prop := baseTextsRow.holds Try.pinned (OpenSpec.ofChange baseTextsWrong)

/-- 'bagnalllaw.BaseByteses': WHATEVER THE INPUT: true; the input reads as it did. -/
def baseBytesesSpec : ChangeSpec := { name := "baseByteses", fn := fun _ => fun
  | [d] => { results := [.lit (.bool true)], args := [d] }
  | _ => none }
def baseBytesesRow : OpenClaim := { program := "ytmecnjhjlhpehaa", sum := "97f52ef298137452700a4027e4281f00b809abf0d23a9b9be92cc6e1f1891a7c", func := "bagnall/bagnalllaw.BaseByteses", spec := "baseByteses", inPlace := ["internal/bytealg.IndexByteString"], apart := false }
def BaseBytesesSaid : Prop := baseBytesesRow.holds Try.pinned (OpenSpec.ofChange baseBytesesSpec)

/-- ITS FALSE NEIGHBOUR: 'it returns false'. Refute it at one input. -/
def baseBytesesWrong : ChangeSpec := { name := "baseByteses", fn := fun _ => fun
  | [d] => { results := [.lit (.bool false)], args := [d] }
  | _ => none }
def BaseBytesesWrongFalsely : Prop := baseBytesesRow.holds Try.pinned (OpenSpec.ofChange baseBytesesWrong)

/- THE SECOND FORM. 'bulk': how many values and letters a reading holds, each counted each time it is reached (what is shared counts as often as it is met; a slice's spare places count too). A statement '..UptoSaid' is the law's where the arguments, and the package variables that the reading takes, are together of bulk at most 1048576: NARROWER than '..Said'. Prove '..Said' where nothing that the law and all that it calls make is longer than what came in: it says more and counts as full. Else prove '..UptoSaid'. A law counts once. -/
mutual
def uptoBulk {H : Type} : DataW H → Nat
  | .lit (.string bytes) => bytes.length + 1
  | .lit _ => 1
  | .nil => 1
  | .ptr d => uptoBulk d + 1
  | .slice elems spare => uptoBulkAll elems + uptoBulkAll spare + 1
  | .agg parts => uptoBulkAll parts + 1
  | .iface _ d => uptoBulk d + 1
  | .map entries => uptoBulkEntries entries + 1
  | .held _ => 1
def uptoBulkAll {H : Type} : List (DataW H) → Nat
  | [] => 0
  | d :: r => uptoBulk d + uptoBulkAll r
def uptoBulkEntries {H : Type} : List (Lit × DataW H) → Nat
  | [] => 0
  | x :: r => uptoBulkEntry x + uptoBulkEntries r
def uptoBulkEntry {H : Type} : Lit × DataW H → Nat
  | (.string bytes, d) => bytes.length + uptoBulk d + 1
  | (_, d) => uptoBulk d + 1
 end
def uptoSmall : (H : Type) → List (DataW H) → Bool := fun _ ds => decide (uptoBulkAll ds ≤ 1048576)
def OpenSpec.upto (s : _root_.Go.ChangeSpec) : _root_.Go.OpenSpec := { _root_.Go.OpenSpec.ofChange s with cond := some uptoSmall }

/-- 'bagnalllaw.BaseTexts', WHERE WHAT IT READS IS OF BULK AT MOST 1048576: true; the input reads as it did. -/
def baseTextsUptoRow : OpenClaim := { program := "ytmecnjhjlhpehaa", sum := "97f52ef298137452700a4027e4281f00b809abf0d23a9b9be92cc6e1f1891a7c", func := "bagnall/bagnalllaw.BaseTexts", spec := "baseTexts", inPlace := ["internal/abi.NoEscape"], apart := false, narrowed := true }
def BaseTextsUptoSaid : Prop := baseTextsUptoRow.holds Try.pinned (OpenSpec.upto baseTextsSpec)

/-- 'bagnalllaw.BaseByteses', WHERE WHAT IT READS IS OF BULK AT MOST 1048576: true; the input reads as it did. -/
def baseBytesesUptoRow : OpenClaim := { program := "ytmecnjhjlhpehaa", sum := "97f52ef298137452700a4027e4281f00b809abf0d23a9b9be92cc6e1f1891a7c", func := "bagnall/bagnalllaw.BaseByteses", spec := "baseByteses", inPlace := ["internal/bytealg.IndexByteString"], apart := false, narrowed := true }
def BaseBytesesUptoSaid : Prop := baseBytesesUptoRow.holds Try.pinned (OpenSpec.upto baseBytesesSpec)

end Rows
end Go.Proofs.Ytmecnjhjlhpehaa
