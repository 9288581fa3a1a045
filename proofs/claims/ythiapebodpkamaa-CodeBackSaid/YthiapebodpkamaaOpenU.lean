/- Elements of slices that come in: bytes. -/
import Derived.Test.YthiapebodpkamaaOpenG
import Derived.Test.YthiapebodpkamaaProg
namespace Go.Proofs.Ythiapebodpkamaa
open Go.RowKit Go.ChangeShapes Go.WideShapes Go.Deep Go.Joins
section
variable {H : Type} {enc : TypeId × Value → H} {w : World} {base : Nat} {spare : Nat → Bool} {held : Bool}
theorem open_u8_el (n : Nat) (cs : List Value) (x : DataW H × List MemPlace) (h : DataW.trod enc Try.prog w base spare held n 5 cs = some x) : ∃ a : Int, cs = oneU8 a ∧ (0 ≤ a ∧ a ≤ 255) := by
  obtain ⟨n0, rfl, _, w0⟩ := DataW.trod_int Try.underlying5 h
  exact ⟨n0, rfl, wf_u8 w0⟩
end
end Go.Proofs.Ythiapebodpkamaa

