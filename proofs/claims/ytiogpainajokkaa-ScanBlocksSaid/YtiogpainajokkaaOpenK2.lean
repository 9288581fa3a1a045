/- Elements of slices that come in: pairs. -/
import Derived.Test.YtiogpainajokkaaOpenG
import Derived.Test.YtiogpainajokkaaTwo
namespace Go.Proofs.Ytiogpainajokkaa
open Go.RowKit Go.ChangeShapes Go.WideShapes Go.Deep Go.Joins
section
variable {H : Type} {enc : TypeId × Value → H} {w : World} {base : Nat} {spare : Nat → Bool} {held : Bool}
theorem spot2 {α : Type} {o : Option α} {xs : List α} {i : Nat} (h : o = xs[i]?) (hl : i < xs.length) : ∃ y, o = some y := ⟨xs[i], by rw [h, List.getElem?_eq_getElem hl]⟩
set_option maxRecDepth 100000 in
theorem open_two_el (n : Nat) (cs : List Value) (x : DataW H × List MemPlace) (h : DataW.trod enc Try.prog w base spare held n 60 cs = some x) : ∃ a : Bool × Bool, cs = twoB a ∧ True := by
  have hC : Try.prog.cellsOf 60 = 2 := by kernel_rfl
  have k2 : Try.prog.cellsOf 4 = 1 := by kernel_rfl
  obtain ⟨zs, m, _, _, hl, hz, hzi⟩ := DataW.trod_array Try.underlying60 h
  obtain ⟨c0, c1, rfl⟩ : ∃ a b, cs = [a, b] := by
    match cs, hl.trans hC with
    | [a, b], _ => exact ⟨a, b, rfl⟩
  obtain ⟨z0, g0⟩ := spot2 (hzi 0 (by decide)) (by omega)
  obtain ⟨z1, g1⟩ := spot2 (hzi 1 (by decide)) (by omega)
  simp only [k2] at g0 g1
  obtain ⟨a0, f0, _⟩ := DataW.trod_bool Try.underlying4 g0
  obtain ⟨a1, f1, _⟩ := DataW.trod_bool Try.underlying4 g1
  have F0 : c0 = .bool a0 := by simpa using f0
  have F1 : c1 = .bool a1 := by simpa using f1
  exact ⟨(a0, a1), by rw [F0, F1]; rfl, trivial⟩
end
end Go.Proofs.Ytiogpainajokkaa

