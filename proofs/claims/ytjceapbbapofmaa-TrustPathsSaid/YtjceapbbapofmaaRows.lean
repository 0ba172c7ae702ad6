/-
  No cell of these rows narrows 'for every input' (looked for: loops, veiled, ifaces, maps, wideKeys, modest, calm, conditions, laid).
  DERIVED. THE GIVEN ROWS OF THIS SEAT. 12 by the template 'for every input the law returns true; each argument reads behind the call as it read before'; 0 by the template 'total and deterministic' (their statements: YtjceapbbapofmaaTotals.lean).
  GIVEN WITH THE SEED: the statements are not yours to turn. If you find one false, say at which input.
  Laid BY PROGRAM, IN A SANDBOX (cutbox-rows.mjs): the forced cells as the released guide's own fill.sh prints them over the translation 0807ae9674208a13… (all of the seat's roots in one cut). By AI agents, Wed Nov 11 2026. No macro, syntax, notation, axiom, sorry.
-/
import Derived.Test.YtjceapbbapofmaaChecked
import GoSem.Claim
import GoSem.ClaimJoined
import GoSem.ClaimMapViews
import Derived.JoinedTies
import Derived.KernelRfl
namespace Go.Proofs.Ytjceapbbapofmaa
/- THE CELL 'sum', in the pinned program and in every row, IS THE sha256 OF THE DUMP (.gsa) THAT YtjceapbbapofmaaProg.lean LOADS. Nothing in Lean hashes anything: it is a label: what it is worth is what the hold of that sum in a sandbox is worth. -/
noncomputable def Try.pinned : Pinned := { name := "ytjceapbbapofmaa", sum := "0807ae9674208a132f7f6e3bd7fadcec8f49a0b5c4f6767c8ce35e5b40d86858", checked := Try.checked }
namespace Rows
def none {H : Type} : Left H := { results := [], args := [] }

/-- 'bagnalllaw.Names': WHATEVER THE INPUT: true; the input reads as it did. -/
def namesSpec : ChangeSpec := { name := "names", fn := fun _ => fun
  | [] => { results := [.lit (.bool true)], args := [] }
  | _ => none }
def namesRow : OpenClaim := { program := "ytjceapbbapofmaa", sum := "0807ae9674208a132f7f6e3bd7fadcec8f49a0b5c4f6767c8ce35e5b40d86858", func := "bagnall/bagnalllaw.Names", spec := "names", apart := false }
def NamesSaid : Prop := namesRow.holds Try.pinned (OpenSpec.ofChange namesSpec)

/-- ITS FALSE NEIGHBOUR: 'it returns false'. Refute it at one input. -/
def namesWrong : ChangeSpec := { name := "names", fn := fun _ => fun
  | [] => { results := [.lit (.bool false)], args := [] }
  | _ => none }
def NamesWrongFalsely : Prop := namesRow.holds Try.pinned (OpenSpec.ofChange namesWrong)

/-- 'bagnalllaw.OutWaits': WHATEVER THE INPUT: true; the input reads as it did. -/
def outWaitsSpec : ChangeSpec := { name := "outWaits", fn := fun _ => fun
  | [d] => { results := [.lit (.bool true)], args := [d] }
  | _ => none }
def outWaitsRow : OpenClaim := { program := "ytjceapbbapofmaa", sum := "0807ae9674208a132f7f6e3bd7fadcec8f49a0b5c4f6767c8ce35e5b40d86858", func := "bagnall/bagnalllaw.OutWaits", spec := "outWaits", apart := false }
def OutWaitsSaid : Prop := outWaitsRow.holds Try.pinned (OpenSpec.ofChange outWaitsSpec)

/-- ITS FALSE NEIGHBOUR: 'it returns false'. Refute it at one input. -/
def outWaitsWrong : ChangeSpec := { name := "outWaits", fn := fun _ => fun
  | [d] => { results := [.lit (.bool false)], args := [d] }
  | _ => none }
def OutWaitsWrongFalsely : Prop := outWaitsRow.holds Try.pinned (OpenSpec.ofChange outWaitsWrong)

/-- 'bagnalllaw.OutPlays': WHATEVER THE INPUT: true; the input reads as it did. -/
def outPlaysSpec : ChangeSpec := { name := "outPlays", fn := fun _ => fun
  | [d] => { results := [.lit (.bool true)], args := [d] }
  | _ => none }
def outPlaysRow : OpenClaim := { program := "ytjceapbbapofmaa", sum := "0807ae9674208a132f7f6e3bd7fadcec8f49a0b5c4f6767c8ce35e5b40d86858", func := "bagnall/bagnalllaw.OutPlays", spec := "outPlays", apart := false }
def OutPlaysSaid : Prop := outPlaysRow.holds Try.pinned (OpenSpec.ofChange outPlaysSpec)

/-- ITS FALSE NEIGHBOUR: 'it returns false'. Refute it at one input. -/
def outPlaysWrong : ChangeSpec := { name := "outPlays", fn := fun _ => fun
  | [d] => { results := [.lit (.bool false)], args := [d] }
  | _ => none }
def OutPlaysWrongFalsely : Prop := outPlaysRow.holds Try.pinned (OpenSpec.ofChange outPlaysWrong)

/-- 'bagnalllaw.SignHashes': WHATEVER THE INPUT: true; the input reads as it did. -/
def signHashesSpec : ChangeSpec := { name := "signHashes", fn := fun _ => fun
  | [d1, d2] => { results := [.lit (.bool true)], args := [d1, d2] }
  | _ => none }
def signHashesRow : OpenClaim := { program := "ytjceapbbapofmaa", sum := "0807ae9674208a132f7f6e3bd7fadcec8f49a0b5c4f6767c8ce35e5b40d86858", func := "bagnall/bagnalllaw.SignHashes", spec := "signHashes", apart := false }
def SignHashesSaid : Prop := signHashesRow.holds Try.pinned (OpenSpec.ofChange signHashesSpec)

/-- ITS FALSE NEIGHBOUR: 'it returns false'. Refute it at one input. -/
def signHashesWrong : ChangeSpec := { name := "signHashes", fn := fun _ => fun
  | [d1, d2] => { results := [.lit (.bool false)], args := [d1, d2] }
  | _ => none }
def SignHashesWrongFalsely : Prop := signHashesRow.holds Try.pinned (OpenSpec.ofChange signHashesWrong)

/-- 'bagnalllaw.SignPublics': WHATEVER THE INPUT: true; the input reads as it did. -/
def signPublicsSpec : ChangeSpec := { name := "signPublics", fn := fun _ => fun
  | [d] => { results := [.lit (.bool true)], args := [d] }
  | _ => none }
def signPublicsRow : OpenClaim := { program := "ytjceapbbapofmaa", sum := "0807ae9674208a132f7f6e3bd7fadcec8f49a0b5c4f6767c8ce35e5b40d86858", func := "bagnall/bagnalllaw.SignPublics", spec := "signPublics", apart := false }
def SignPublicsSaid : Prop := signPublicsRow.holds Try.pinned (OpenSpec.ofChange signPublicsSpec)

/-- ITS FALSE NEIGHBOUR: 'it returns false'. Refute it at one input. -/
def signPublicsWrong : ChangeSpec := { name := "signPublics", fn := fun _ => fun
  | [d] => { results := [.lit (.bool false)], args := [d] }
  | _ => none }
def SignPublicsWrongFalsely : Prop := signPublicsRow.holds Try.pinned (OpenSpec.ofChange signPublicsWrong)

/-- 'bagnalllaw.SignMakes': WHATEVER THE INPUT: true; the input reads as it did. -/
def signMakesSpec : ChangeSpec := { name := "signMakes", fn := fun _ => fun
  | [d1, d2, d3] => { results := [.lit (.bool true)], args := [d1, d2, d3] }
  | _ => none }
def signMakesRow : OpenClaim := { program := "ytjceapbbapofmaa", sum := "0807ae9674208a132f7f6e3bd7fadcec8f49a0b5c4f6767c8ce35e5b40d86858", func := "bagnall/bagnalllaw.SignMakes", spec := "signMakes", apart := false }
def SignMakesSaid : Prop := signMakesRow.holds Try.pinned (OpenSpec.ofChange signMakesSpec)

/-- ITS FALSE NEIGHBOUR: 'it returns false'. Refute it at one input. -/
def signMakesWrong : ChangeSpec := { name := "signMakes", fn := fun _ => fun
  | [d1, d2, d3] => { results := [.lit (.bool false)], args := [d1, d2, d3] }
  | _ => none }
def SignMakesWrongFalsely : Prop := signMakesRow.holds Try.pinned (OpenSpec.ofChange signMakesWrong)

/-- 'bagnalllaw.SignChecks': WHATEVER THE INPUT: true; the input reads as it did. -/
def signChecksSpec : ChangeSpec := { name := "signChecks", fn := fun _ => fun
  | [d1, d2, d3] => { results := [.lit (.bool true)], args := [d1, d2, d3] }
  | _ => none }
def signChecksRow : OpenClaim := { program := "ytjceapbbapofmaa", sum := "0807ae9674208a132f7f6e3bd7fadcec8f49a0b5c4f6767c8ce35e5b40d86858", func := "bagnall/bagnalllaw.SignChecks", spec := "signChecks", apart := false }
def SignChecksSaid : Prop := signChecksRow.holds Try.pinned (OpenSpec.ofChange signChecksSpec)

/-- ITS FALSE NEIGHBOUR: 'it returns false'. Refute it at one input. -/
def signChecksWrong : ChangeSpec := { name := "signChecks", fn := fun _ => fun
  | [d1, d2, d3] => { results := [.lit (.bool false)], args := [d1, d2, d3] }
  | _ => none }
def SignChecksWrongFalsely : Prop := signChecksRow.holds Try.pinned (OpenSpec.ofChange signChecksWrong)

/-- 'bagnalllaw.SignSecrets': WHATEVER THE INPUT: true; the input reads as it did. -/
def signSecretsSpec : ChangeSpec := { name := "signSecrets", fn := fun _ => fun
  | [d1, d2, d3, d4] => { results := [.lit (.bool true)], args := [d1, d2, d3, d4] }
  | _ => none }
def signSecretsRow : OpenClaim := { program := "ytjceapbbapofmaa", sum := "0807ae9674208a132f7f6e3bd7fadcec8f49a0b5c4f6767c8ce35e5b40d86858", func := "bagnall/bagnalllaw.SignSecrets", spec := "signSecrets", apart := false }
def SignSecretsSaid : Prop := signSecretsRow.holds Try.pinned (OpenSpec.ofChange signSecretsSpec)

/-- ITS FALSE NEIGHBOUR: 'it returns false'. Refute it at one input. -/
def signSecretsWrong : ChangeSpec := { name := "signSecrets", fn := fun _ => fun
  | [d1, d2, d3, d4] => { results := [.lit (.bool false)], args := [d1, d2, d3, d4] }
  | _ => none }
def SignSecretsWrongFalsely : Prop := signSecretsRow.holds Try.pinned (OpenSpec.ofChange signSecretsWrong)

/-- 'bagnalllaw.TrustGoods': WHATEVER THE INPUT: true; the input reads as it did. -/
def trustGoodsSpec : ChangeSpec := { name := "trustGoods", fn := fun _ => fun
  | [d] => { results := [.lit (.bool true)], args := [d] }
  | _ => none }
def trustGoodsRow : OpenClaim := { program := "ytjceapbbapofmaa", sum := "0807ae9674208a132f7f6e3bd7fadcec8f49a0b5c4f6767c8ce35e5b40d86858", func := "bagnall/bagnalllaw.TrustGoods", spec := "trustGoods", apart := false }
def TrustGoodsSaid : Prop := trustGoodsRow.holds Try.pinned (OpenSpec.ofChange trustGoodsSpec)

/-- ITS FALSE NEIGHBOUR: 'it returns false'. Refute it at one input. -/
def trustGoodsWrong : ChangeSpec := { name := "trustGoods", fn := fun _ => fun
  | [d] => { results := [.lit (.bool false)], args := [d] }
  | _ => none }
def TrustGoodsWrongFalsely : Prop := trustGoodsRow.holds Try.pinned (OpenSpec.ofChange trustGoodsWrong)

/-- 'bagnalllaw.TrustPaths': WHATEVER THE INPUT: true; the input reads as it did. -/
def trustPathsSpec : ChangeSpec := { name := "trustPaths", fn := fun _ => fun
  | [d1, d2, d3] => { results := [.lit (.bool true)], args := [d1, d2, d3] }
  | _ => none }
def trustPathsRow : OpenClaim := { program := "ytjceapbbapofmaa", sum := "0807ae9674208a132f7f6e3bd7fadcec8f49a0b5c4f6767c8ce35e5b40d86858", func := "bagnall/bagnalllaw.TrustPaths", spec := "trustPaths", unfollowed := true, recurses := true, leaving := true, apart := false }
def TrustPathsSaid : Prop := trustPathsRow.holds Try.pinned (OpenSpec.ofChange trustPathsSpec)

/-- ITS FALSE NEIGHBOUR: 'it returns false'. Refute it at one input. -/
def trustPathsWrong : ChangeSpec := { name := "trustPaths", fn := fun _ => fun
  | [d1, d2, d3] => { results := [.lit (.bool false)], args := [d1, d2, d3] }
  | _ => none }
def TrustPathsWrongFalsely : Prop := trustPathsRow.holds Try.pinned (OpenSpec.ofChange trustPathsWrong)

/-- 'bagnalllaw.TrustReaches': WHATEVER THE INPUT: true; the input reads as it did. -/
def trustReachesSpec : ChangeSpec := { name := "trustReaches", fn := fun _ => fun
  | [d1, d2] => { results := [.lit (.bool true)], args := [d1, d2] }
  | _ => none }
def trustReachesRow : OpenClaim := { program := "ytjceapbbapofmaa", sum := "0807ae9674208a132f7f6e3bd7fadcec8f49a0b5c4f6767c8ce35e5b40d86858", func := "bagnall/bagnalllaw.TrustReaches", spec := "trustReaches", unfollowed := true, recurses := true, leaving := true, apart := false }
def TrustReachesSaid : Prop := trustReachesRow.holds Try.pinned (OpenSpec.ofChange trustReachesSpec)

/-- ITS FALSE NEIGHBOUR: 'it returns false'. Refute it at one input. -/
def trustReachesWrong : ChangeSpec := { name := "trustReaches", fn := fun _ => fun
  | [d1, d2] => { results := [.lit (.bool false)], args := [d1, d2] }
  | _ => none }
def TrustReachesWrongFalsely : Prop := trustReachesRow.holds Try.pinned (OpenSpec.ofChange trustReachesWrong)

/-- 'bagnalllaw.CrewSigns': WHATEVER THE INPUT: true; the input reads as it did. -/
def crewSignsSpec : ChangeSpec := { name := "crewSigns", fn := fun _ => fun
  | [d1, d2, d3] => { results := [.lit (.bool true)], args := [d1, d2, d3] }
  | _ => none }
def crewSignsRow : OpenClaim := { program := "ytjceapbbapofmaa", sum := "0807ae9674208a132f7f6e3bd7fadcec8f49a0b5c4f6767c8ce35e5b40d86858", func := "bagnall/bagnalllaw.CrewSigns", spec := "crewSigns", inPlace := ["(*sync.WaitGroup).Add", "internal/race.ReleaseMerge", "internal/race.Disable", "internal/race.Enable", "internal/synctest.IsInBubble", "internal/synctest.Associate[sync.WaitGroup]", "sync.fatal", "sync/atomic.OrUint64", "sync/atomic.AddUint64", "internal/race.Read", "sync/atomic.LoadUint64", "sync/atomic.StoreUint64", "internal/synctest.Disassociate[sync.WaitGroup]", "sync.runtime_Semrelease", "(*sync.WaitGroup).Done", "(*sync.WaitGroup).Wait", "internal/race.Acquire", "internal/synctest.IsAssociated[sync.WaitGroup]", "sync/atomic.CompareAndSwapUint64", "internal/race.Write", "sync.runtime_SemacquireWaitGroup"], unfollowed := true, recurses := true, leaving := true, apart := false }
def CrewSignsSaid : Prop := crewSignsRow.holds Try.pinned (OpenSpec.ofChange crewSignsSpec)

/-- ITS FALSE NEIGHBOUR: 'it returns false'. Refute it at one input. -/
def crewSignsWrong : ChangeSpec := { name := "crewSigns", fn := fun _ => fun
  | [d1, d2, d3] => { results := [.lit (.bool false)], args := [d1, d2, d3] }
  | _ => none }
def CrewSignsWrongFalsely : Prop := crewSignsRow.holds Try.pinned (OpenSpec.ofChange crewSignsWrong)

/- THE SECOND FORM. 'bulk': how many values and letters a reading holds, each counted each time it is reached (what is shared counts as often as it is met; a slice's spare places count too). A statement '..UptoSaid' is the law's where the arguments, and the package variables that the reading takes, are together of bulk at most 1048576: NARROWER than '..Said'. Prove '..Said' where nothing that the law and all that it calls make is longer than what came in: it says more and counts as full. Else prove '..UptoSaid'. A law counts once. -/
mutual
def uptoBulk {H : Type} : DataW H → Nat
  | .lit (.string bytes) => bytes.length + 1
  | .lit _ => 1
  | .nil => 1
  | .ptr d => uptoBulk d + 1
  | .slice elems spare => uptoBulkAll elems + uptoBulkAll spare + 1
  | .agg parts => uptoBulkAll parts + 1
  | .iface _ d => uptoBulk d + 1
  | .map entries => uptoBulkEntries entries + 1
  | .held _ => 1
def uptoBulkAll {H : Type} : List (DataW H) → Nat
  | [] => 0
  | d :: r => uptoBulk d + uptoBulkAll r
def uptoBulkEntries {H : Type} : List (Lit × DataW H) → Nat
  | [] => 0
  | x :: r => uptoBulkEntry x + uptoBulkEntries r
def uptoBulkEntry {H : Type} : Lit × DataW H → Nat
  | (.string bytes, d) => bytes.length + uptoBulk d + 1
  | (_, d) => uptoBulk d + 1
 end
def uptoSmall : (H : Type) → List (DataW H) → Bool := fun _ ds => decide (uptoBulkAll ds ≤ 1048576)
def OpenSpec.upto (s : _root_.Go.ChangeSpec) : _root_.Go.OpenSpec := { _root_.Go.OpenSpec.ofChange s with cond := some uptoSmall }

/-- 'bagnalllaw.Names', WHERE WHAT IT READS IS OF BULK AT MOST 1048576: true; the input reads as it did. -/
def namesUptoRow : OpenClaim := { program := "ytjceapbbapofmaa", sum := "0807ae9674208a132f7f6e3bd7fadcec8f49a0b5c4f6767c8ce35e5b40d86858", func := "bagnall/bagnalllaw.Names", spec := "names", apart := false, narrowed := true }
def NamesUptoSaid : Prop := namesUptoRow.holds Try.pinned (OpenSpec.upto namesSpec)

/-- 'bagnalllaw.OutWaits', WHERE WHAT IT READS IS OF BULK AT MOST 1048576: true; the input reads as it did. -/
def outWaitsUptoRow : OpenClaim := { program := "ytjceapbbapofmaa", sum := "0807ae9674208a132f7f6e3bd7fadcec8f49a0b5c4f6767c8ce35e5b40d86858", func := "bagnall/bagnalllaw.OutWaits", spec := "outWaits", apart := false, narrowed := true }
def OutWaitsUptoSaid : Prop := outWaitsUptoRow.holds Try.pinned (OpenSpec.upto outWaitsSpec)

/-- 'bagnalllaw.OutPlays', WHERE WHAT IT READS IS OF BULK AT MOST 1048576: true; the input reads as it did. -/
def outPlaysUptoRow : OpenClaim := { program := "ytjceapbbapofmaa", sum := "0807ae9674208a132f7f6e3bd7fadcec8f49a0b5c4f6767c8ce35e5b40d86858", func := "bagnall/bagnalllaw.OutPlays", spec := "outPlays", apart := false, narrowed := true }
def OutPlaysUptoSaid : Prop := outPlaysUptoRow.holds Try.pinned (OpenSpec.upto outPlaysSpec)

/-- 'bagnalllaw.SignHashes', WHERE WHAT IT READS IS OF BULK AT MOST 1048576: true; the input reads as it did. -/
def signHashesUptoRow : OpenClaim := { program := "ytjceapbbapofmaa", sum := "0807ae9674208a132f7f6e3bd7fadcec8f49a0b5c4f6767c8ce35e5b40d86858", func := "bagnall/bagnalllaw.SignHashes", spec := "signHashes", apart := false, narrowed := true }
def SignHashesUptoSaid : Prop := signHashesUptoRow.holds Try.pinned (OpenSpec.upto signHashesSpec)

/-- 'bagnalllaw.SignPublics', WHERE WHAT IT READS IS OF BULK AT MOST 1048576: true; the input reads as it did. -/
def signPublicsUptoRow : OpenClaim := { program := "ytjceapbbapofmaa", sum := "0807ae9674208a132f7f6e3bd7fadcec8f49a0b5c4f6767c8ce35e5b40d86858", func := "bagnall/bagnalllaw.SignPublics", spec := "signPublics", apart := false, narrowed := true }
def SignPublicsUptoSaid : Prop := signPublicsUptoRow.holds Try.pinned (OpenSpec.upto signPublicsSpec)

/-- 'bagnalllaw.SignMakes', WHERE WHAT IT READS IS OF BULK AT MOST 1048576: true; the input reads as it did. -/
def signMakesUptoRow : OpenClaim := { program := "ytjceapbbapofmaa", sum := "0807ae9674208a132f7f6e3bd7fadcec8f49a0b5c4f6767c8ce35e5b40d86858", func := "bagnall/bagnalllaw.SignMakes", spec := "signMakes", apart := false, narrowed := true }
def SignMakesUptoSaid : Prop := signMakesUptoRow.holds Try.pinned (OpenSpec.upto signMakesSpec)

/-- 'bagnalllaw.SignChecks', WHERE WHAT IT READS IS OF BULK AT MOST 1048576: true; the input reads as it did. -/
def signChecksUptoRow : OpenClaim := { program := "ytjceapbbapofmaa", sum := "0807ae9674208a132f7f6e3bd7fadcec8f49a0b5c4f6767c8ce35e5b40d86858", func := "bagnall/bagnalllaw.SignChecks", spec := "signChecks", apart := false, narrowed := true }
def SignChecksUptoSaid : Prop := signChecksUptoRow.holds Try.pinned (OpenSpec.upto signChecksSpec)

/-- 'bagnalllaw.SignSecrets', WHERE WHAT IT READS IS OF BULK AT MOST 1048576: true; the input reads as it did. -/
def signSecretsUptoRow : OpenClaim := { program := "ytjceapbbapofmaa", sum := "0807ae9674208a132f7f6e3bd7fadcec8f49a0b5c4f6767c8ce35e5b40d86858", func := "bagnall/bagnalllaw.SignSecrets", spec := "signSecrets", apart := false, narrowed := true }
def SignSecretsUptoSaid : Prop := signSecretsUptoRow.holds Try.pinned (OpenSpec.upto signSecretsSpec)

/-- 'bagnalllaw.TrustGoods', WHERE WHAT IT READS IS OF BULK AT MOST 1048576: true; the input reads as it did. -/
def trustGoodsUptoRow : OpenClaim := { program := "ytjceapbbapofmaa", sum := "0807ae9674208a132f7f6e3bd7fadcec8f49a0b5c4f6767c8ce35e5b40d86858", func := "bagnall/bagnalllaw.TrustGoods", spec := "trustGoods", apart := false, narrowed := true }
def TrustGoodsUptoSaid : Prop := trustGoodsUptoRow.holds Try.pinned (OpenSpec.upto trustGoodsSpec)

/-- 'bagnalllaw.TrustPaths', WHERE WHAT IT READS IS OF BULK AT MOST 1048576: true; the input reads as it did. -/
def trustPathsUptoRow : OpenClaim := { program := "ytjceapbbapofmaa", sum := "0807ae9674208a132f7f6e3bd7fadcec8f49a0b5c4f6767c8ce35e5b40d86858", func := "bagnall/bagnalllaw.TrustPaths", spec := "trustPaths", unfollowed := true, recurses := true, leaving := true, apart := false, narrowed := true }
def TrustPathsUptoSaid : Prop := trustPathsUptoRow.holds Try.pinned (OpenSpec.upto trustPathsSpec)

/-- 'bagnalllaw.TrustReaches', WHERE WHAT IT READS IS OF BULK AT MOST 1048576: true; the input reads as it did. -/
def trustReachesUptoRow : OpenClaim := { program := "ytjceapbbapofmaa", sum := "0807ae9674208a132f7f6e3bd7fadcec8f49a0b5c4f6767c8ce35e5b40d86858", func := "bagnall/bagnalllaw.TrustReaches", spec := "trustReaches", unfollowed := true, recurses := true, leaving := true, apart := false, narrowed := true }
def TrustReachesUptoSaid : Prop := trustReachesUptoRow.holds Try.pinned (OpenSpec.upto trustReachesSpec)

/-- 'bagnalllaw.CrewSigns', WHERE WHAT IT READS IS OF BULK AT MOST 1048576: true; the input reads as it did. -/
def crewSignsUptoRow : OpenClaim := { program := "ytjceapbbapofmaa", sum := "0807ae9674208a132f7f6e3bd7fadcec8f49a0b5c4f6767c8ce35e5b40d86858", func := "bagnall/bagnalllaw.CrewSigns", spec := "crewSigns", inPlace := ["(*sync.WaitGroup).Add", "internal/race.ReleaseMerge", "internal/race.Disable", "internal/race.Enable", "internal/synctest.IsInBubble", "internal/synctest.Associate[sync.WaitGroup]", "sync.fatal", "sync/atomic.OrUint64", "sync/atomic.AddUint64", "internal/race.Read", "sync/atomic.LoadUint64", "sync/atomic.StoreUint64", "internal/synctest.Disassociate[sync.WaitGroup]", "sync.runtime_Semrelease", "(*sync.WaitGroup).Done", "(*sync.WaitGroup).Wait", "internal/race.Acquire", "internal/synctest.IsAssociated[sync.WaitGroup]", "sync/atomic.CompareAndSwapUint64", "internal/race.Write", "sync.runtime_SemacquireWaitGroup"], unfollowed := true, recurses := true, leaving := true, apart := false, narrowed := true }
def CrewSignsUptoSaid : Prop := crewSignsUptoRow.holds Try.pinned (OpenSpec.upto crewSignsSpec)

end Rows
end Go.Proofs.Ytjceapbbapofmaa
