/- Elements of slices that come in: rounds of four. -/
import Derived.Test.YtjanofopmmndoaaOpenG
import Derived.Test.YtjanofopmmndoaaCount
namespace Go.Proofs.Ytjanofopmmndoaa
open Go.RowKit Go.ChangeShapes Go.WideShapes Go.Deep Go.Joins
section
variable {H : Type} {enc : TypeId × Value → H} {w : World} {base : Nat} {spare : Nat → Bool} {held : Bool}
theorem spot4 {α : Type} {o : Option α} {xs : List α} {i : Nat} (h : o = xs[i]?) (hl : i < xs.length) : ∃ y, o = some y := ⟨xs[i], by rw [h, List.getElem?_eq_getElem hl]⟩
theorem open_four_el (n : Nat) (cs : List Value) (x : DataW H × List MemPlace) (h : DataW.trod enc Try.prog w base spare held n 48 cs = some x) : ∃ a : Bool × Bool × Bool × Bool, cs = fourB a ∧ True := by
  have hC : Try.prog.cellsOf 48 = 4 := by kernel_rfl
  have k2 : Try.prog.cellsOf 4 = 1 := by kernel_rfl
  obtain ⟨zs, m, _, _, hl, hz, hzi⟩ := DataW.trod_array Try.underlying48 h
  obtain ⟨c0, c1, c2, c3, rfl⟩ : ∃ a b c d, cs = [a, b, c, d] := by
    match cs, hl.trans hC with
    | [a, b, c, d], _ => exact ⟨a, b, c, d, rfl⟩
  obtain ⟨z0, g0⟩ := spot4 (hzi 0 (by decide)) (by omega)
  obtain ⟨z1, g1⟩ := spot4 (hzi 1 (by decide)) (by omega)
  obtain ⟨z2, g2⟩ := spot4 (hzi 2 (by decide)) (by omega)
  obtain ⟨z3, g3⟩ := spot4 (hzi 3 (by decide)) (by omega)
  simp only [k2] at g0 g1 g2 g3
  obtain ⟨a0, f0, _⟩ := DataW.trod_bool Try.underlying4 g0
  obtain ⟨a1, f1, _⟩ := DataW.trod_bool Try.underlying4 g1
  obtain ⟨a2, f2, _⟩ := DataW.trod_bool Try.underlying4 g2
  obtain ⟨a3, f3, _⟩ := DataW.trod_bool Try.underlying4 g3
  have F0 : c0 = .bool a0 := by simpa using f0
  have F1 : c1 = .bool a1 := by simpa using f1
  have F2 : c2 = .bool a2 := by simpa using f2
  have F3 : c3 = .bool a3 := by simpa using f3
  exact ⟨(a0, a1, a2, a3), by rw [F0, F1, F2, F3]; rfl, trivial⟩
end
end Go.Proofs.Ytjanofopmmndoaa
