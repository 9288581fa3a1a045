/- Elements of slices that come in: bytes. -/
import Derived.Test.YthiapebodpkamaaOpenG
import Derived.Test.YthiapebodpkamaaProg
import Derived.Test.YthiapebodpkamaaOpen
namespace Go.Proofs.Ythiapebodpkamaa
open Go.RowKit Go.ChangeShapes Go.WideShapes Go.Deep Go.Joins
section
variable {H : Type} {enc : TypeId × Value → H} {w : World} {base : Nat} {spare : Nat → Bool} {held : Bool}
theorem open_u8_el (n : Nat) (cs : List Value) (x : DataW H × List MemPlace) (h : DataW.trod enc Try.prog w base spare held n 5 cs = some x) : ∃ a : Int, cs = oneU8 a ∧ (0 ≤ a ∧ a ≤ 255) := by
  obtain ⟨n0, rfl, _, w0⟩ := DataW.trod_int Try.underlying5 h
  exact ⟨n0, rfl, wf_u8 w0⟩
end
end Go.Proofs.Ythiapebodpkamaa

namespace Go.Proofs.Ythiapebodpkamaa
open Go.RowKit Go.ChangeShapes Go.WideShapes Go.Deep Go.Joins
section
variable {H : Type} {enc : TypeId × Value → H} {w : World} {base : Nat} {spare : Nat → Bool} {held : Bool}
set_option maxRecDepth 100000 in
theorem open_case {r : Reach} {b0 : Nat} {v : Value} {d : DataW H} {p : List MemPlace} (hv : Value.okWide Try.prog w r b0 64 v) (h : DataW.Trod enc Try.prog w base spare held 64 v d p) :
    ∃ (l : List Int) (vl : Value) (t n k : Int), v = .agg #[vl, .int .u8 t, .int .i64 n, .int .u8 k] ∧ Rd oneU8 1 w vl l ∧ (∀ x ∈ l, 0 ≤ x ∧ x ≤ 255) := by
  obtain ⟨v0, v1, v2, v3, y0, y1, y2, y3, m, rfl, _, _, h0, h1, h2, h3⟩ := open_agg4 Try.underlying64 (by kernel_rfl) (by kernel_rfl) hv h
  obtain ⟨xs, r1, g1⟩ := open_rd Try.underlying62 (by kernel_rfl) oneU8_len (by decide) open_u8_el h0
  obtain ⟨n1, e1, _, w1⟩ := DataW.trod_int Try.underlying22 h1
  obtain ⟨n2, e2, _, w2⟩ := DataW.trod_int Try.underlying2 h2
  obtain ⟨n3, e3, _, w3⟩ := DataW.trod_int Try.underlying42 h3
  simp at e1 e2 e3
  subst e1 e2 e3
  exact ⟨xs, v0, n1, n2, n3, rfl, r1, g1⟩
end
end Go.Proofs.Ythiapebodpkamaa

