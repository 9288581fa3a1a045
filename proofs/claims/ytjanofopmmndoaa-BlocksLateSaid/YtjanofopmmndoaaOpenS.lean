/- Elements of slices that come in: bools. -/
import Derived.Test.YtjanofopmmndoaaOpenG
import Derived.Test.YtjanofopmmndoaaEdge
namespace Go.Proofs.Ytjanofopmmndoaa
open Go.RowKit Go.ChangeShapes Go.WideShapes Go.Deep Go.Joins
section
variable {H : Type} {enc : TypeId × Value → H} {w : World} {base : Nat} {spare : Nat → Bool} {held : Bool}
theorem open_bool_el (n : Nat) (cs : List Value) (x : DataW H × List MemPlace) (h : DataW.trod enc Try.prog w base spare held n 4 cs = some x) : ∃ a : Bool, cs = oneBool a ∧ True := by
  obtain ⟨b, rfl, _⟩ := DataW.trod_bool Try.underlying4 h
  exact ⟨b, rfl, trivial⟩
end
end Go.Proofs.Ytjanofopmmndoaa
