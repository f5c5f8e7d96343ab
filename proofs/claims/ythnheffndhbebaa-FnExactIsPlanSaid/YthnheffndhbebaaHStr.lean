/- The contract of strings.IndexByte, off the shelf, in the form that the printed texts call. -/
import Derived.Test.YthnheffndhbebaaHBase
import Derived.Test.YthnheffndhbebaaShelf
namespace Go.Proofs.Ythnheffndhbebaa
open Go.RowKit Go.Proofs.YthnheffndhbebaaW.PrintWords Go.Proofs.YthnheffndhbebaaW.PrintLast
set_option linter.unusedVariables false
set_option linter.unusedSimpArgs false

def strings_IndexByte.f (a0 : ByteArray) (a1 : Int) : Option Int := some (Lib.indexByte a0.data.toList a1.toNat.toUInt8)
theorem strings_IndexByte.calls (a0 : ByteArray) (a1 : Int) (r : Int) (w : World) (h : strings_IndexByte.f a0 a1 = some r) :
    Calls Try.prog 53 #[.string a0, .int .u8 a1] w fun e w' => e = .returned (.int .i64 r) ∧ Drawn0 w w' := by
  unfold strings_IndexByte.f at h
  obtain rfl := Option.some.inj h
  exact (Try.strings_IndexByte a0 a1 w).mono fun e w' ⟨h1, h2⟩ => ⟨h1, by rw [h2]; exact Drawn0.refl w⟩
end Go.Proofs.Ythnheffndhbebaa
