/- Elements of slices that come in: ticks. -/
import Derived.Test.YtjanofopmmndoaaOpenG
import Derived.Test.YtjanofopmmndoaaPulse
namespace Go.Proofs.Ytjanofopmmndoaa
open Go.RowKit Go.ChangeShapes Go.WideShapes Go.Deep Go.Joins
section
variable {H : Type} {enc : TypeId × Value → H} {w : World} {base : Nat} {spare : Nat → Bool} {held : Bool}
theorem open_u16_el (n : Nat) (cs : List Value) (x : DataW H × List MemPlace) (h : DataW.trod enc Try.prog w base spare held n 34 cs = some x) : ∃ a : Int, cs = oneU16 a ∧ (0 ≤ a ∧ a ≤ 65535) := by
  obtain ⟨n0, rfl, _, w0⟩ := DataW.trod_int Try.underlying34 h
  exact ⟨n0, rfl, by simpa [Lit.wf, IntKind.min, IntKind.max, IntKind.bits, IntKind.signed] using w0⟩
end
end Go.Proofs.Ytjanofopmmndoaa
