/- strings.IndexByte by the shelf's contract, in the form that the other functions' proofs take. -/
import Derived.Test.YtmecnjhjlhpehaaQT
import Derived.Test.YtmecnjhjlhpehaaShelf
namespace Go.Proofs.Ytmecnjhjlhpehaa.Q
open Go.RowKit Go.Proofs.YtmecnjhjlhpehaaW.PrintWords Go.Proofs.YtmecnjhjlhpehaaW.PrintLast
def strings_IndexByte.f (s : ByteArray) (c : Int) : Option Int := some (Lib.indexByte s.data.toList c.toNat.toUInt8)
theorem strings_IndexByte.calls (a0 : ByteArray) (a1 : Int) (r : Int) (w : World) (h : strings_IndexByte.f a0 a1 = some r) :
    Calls Try.prog 11 #[.string a0, .int .u8 a1] w fun e w' => e = .returned (.int .i64 r) ∧ Drawn0 w w' := by
  obtain rfl := Option.some.inj h
  exact (Try.strings_IndexByte a0 a1 w).mono fun e w' ⟨he, hw⟩ => ⟨he, hw ▸ Drawn0.refl w⟩
end Go.Proofs.Ytmecnjhjlhpehaa.Q
