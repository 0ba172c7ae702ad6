/-
  DERIVED. GIVEN WITH THE SEED: THE CARDS: each row of YtmecnjhjlhpehaaDoorRows.lean that lists a variable, with what it lists TIED to the program's text (the seventh form; the later family's looks); each row that meets fmt, with fmt's text TOLD by the authors' own Lean function (tested against real Go, not proved from fmt's source: count such statements apart). THE CARD IS WHAT COUNTS. Prove the row's statement (the work); the ties are given (YtmecnjhjlhpehaaDoorTie.lean); close each card by the builder's one call (the guide's Derived/Test/ToyasCard.lean, 'card_holds'). Laid BY PROGRAM, IN A SANDBOX (cutbox-door.mjs). By AI agents, Wed Nov 11 2026. No macro, syntax, notation, axiom, sorry.
-/
import Derived.Test.YtmecnjhjlhpehaaDoorRows
import GoSem.ClaimSeven
namespace Go.Proofs.YtmecnjhjlhpehaaDoor
namespace Rows

/-- THE TIED CARD OF 'bagnalllaw.JsonChecks'. -/
def jsonChecksCard : Claim7 := { stood := { row := jsonChecksRow, standIns := [], harness := (true, "28ec6adb69eb09c6fdb1234d53ba56c83549888be88f2214a57ba24956aae53b"), looks := false }, kinds := [], alts := [], laidByText := true, laidKinds := [.data, .data, .data], laidTests := true, laidLooks := .later }
def JsonChecksCardSaid : Prop := Claim7.holds Tryd.pinned (.plain (OpenSpec.ofChange jsonChecksSpec)) jsonChecksCard

/-- THE TIED CARD OF 'bagnalllaw.JsonTexts'. -/
def jsonTextsCard : Claim7 := { stood := { row := jsonTextsRow, standIns := [], harness := (true, "28ec6adb69eb09c6fdb1234d53ba56c83549888be88f2214a57ba24956aae53b"), looks := false }, kinds := [], alts := [], laidByText := true, laidKinds := [.data, .data, .data], laidTests := true, laidLooks := .later }
def JsonTextsCardSaid : Prop := Claim7.holds Tryd.pinned (.plain (OpenSpec.ofChange jsonTextsSpec)) jsonTextsCard

/-- THE TIED CARD OF 'bagnalllaw.SealTexts'. -/
def sealTextsCard : Claim7 := { stood := { row := sealTextsRow, standIns := [], harness := (true, "28ec6adb69eb09c6fdb1234d53ba56c83549888be88f2214a57ba24956aae53b"), looks := false }, kinds := [], alts := [], laidByText := true, laidKinds := [.data, .data, .data], laidTests := true, laidLooks := .later }
def SealTextsCardSaid : Prop := Claim7.holds Tryd.pinned (.plain (OpenSpec.ofChange sealTextsSpec)) sealTextsCard

/-- THE SECOND FORM's CARD OF 'bagnalllaw.JsonChecks'. -/
def jsonChecksUptoCard : Claim7 := { stood := { row := jsonChecksUptoRow, standIns := [], harness := (true, "28ec6adb69eb09c6fdb1234d53ba56c83549888be88f2214a57ba24956aae53b"), looks := false }, kinds := [], alts := [], laidByText := true, laidKinds := [.data, .data, .data], laidTests := true, laidLooks := .later }
def JsonChecksUptoCardSaid : Prop := Claim7.holds Tryd.pinned (.plain (OpenSpec.upto jsonChecksSpec)) jsonChecksUptoCard

/-- THE SECOND FORM's CARD OF 'bagnalllaw.JsonTexts'. -/
def jsonTextsUptoCard : Claim7 := { stood := { row := jsonTextsUptoRow, standIns := [], harness := (true, "28ec6adb69eb09c6fdb1234d53ba56c83549888be88f2214a57ba24956aae53b"), looks := false }, kinds := [], alts := [], laidByText := true, laidKinds := [.data, .data, .data], laidTests := true, laidLooks := .later }
def JsonTextsUptoCardSaid : Prop := Claim7.holds Tryd.pinned (.plain (OpenSpec.upto jsonTextsSpec)) jsonTextsUptoCard

/-- THE SECOND FORM's CARD OF 'bagnalllaw.SealTexts'. -/
def sealTextsUptoCard : Claim7 := { stood := { row := sealTextsUptoRow, standIns := [], harness := (true, "28ec6adb69eb09c6fdb1234d53ba56c83549888be88f2214a57ba24956aae53b"), looks := false }, kinds := [], alts := [], laidByText := true, laidKinds := [.data, .data, .data], laidTests := true, laidLooks := .later }
def SealTextsUptoCardSaid : Prop := Claim7.holds Tryd.pinned (.plain (OpenSpec.upto sealTextsSpec)) sealTextsUptoCard
end Rows
end Go.Proofs.YtmecnjhjlhpehaaDoor
