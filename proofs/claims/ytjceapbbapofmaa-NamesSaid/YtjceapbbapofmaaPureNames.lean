/- The error numbers, kinds and limits of package api are the documented ones: the law has no argument; no condition. -/
import Derived.Test.YtjceapbbapofmaaPNamesx1
namespace Go.Proofs.Ytjceapbbapofmaa.Pure
open Go.RowKit Go.Proofs.Ytjceapbbapofmaa.PNames Go.Proofs.YtjceapbbapofmaaW.PrintWords Go.Proofs.YtjceapbbapofmaaW.PrintLast

set_option maxRecDepth 100000 in
theorem Names : bagnalllaw_Names.Pure := by
  exact ⟨80, by decide +kernel⟩

end Go.Proofs.Ytjceapbbapofmaa.Pure
