/- A program that comes in as an argument, opened to Lean data. -/
import Derived.Test.YthiapebodpkamaaAwake
import Derived.Test.YthiapebodpkamaaOpenG
import Derived.Lib.SmallJoins
namespace Go.Proofs.Ythiapebodpkamaa
open Go.RowKit Go.ChangeShapes Go.WideShapes Go.Deep Go.Joins
theorem list4 {α : Type} {l : List α} (h : l.length = 4) : ∃ a b c d, l = [a, b, c, d] := by
  match l, h with
  | [a, b, c, d], _ => exact ⟨a, b, c, d, rfl⟩
section
variable {H : Type} {enc : TypeId × Value → H} {w : World} {base : Nat} {spare : Nat → Bool} {held : Bool}
theorem open_var (n : Nat) (cs : List Value) (x : DataW H × List MemPlace) (h : DataW.trod enc Try.prog w base spare held n 41 cs = some x) : ∃ a : GVar, cs = encVar a ∧ (a.Wf ∧ a.name.size ≤ maxLen) := by
  obtain ⟨y0, y1, y2, y3, m, _, hl, h0, h1, h2, h3⟩ := trod_struct4 Try.underlying41 h
  have hc : Try.prog.cellsOf 41 = 4 := by kernel_rfl
  obtain ⟨c0, c1, c2, c3, rfl⟩ := list4 (hl.trans hc)
  have k0 : Try.prog.cellsOf 9 = 1 := by kernel_rfl
  have k1 : Try.prog.cellsOf 39 = 1 := by kernel_rfl
  have k2 : Try.prog.cellsOf 22 = 1 := by kernel_rfl
  have k3 : Try.prog.cellsOf 2 = 1 := by kernel_rfl
  simp only [k0, k1, k2, k3] at h0 h1 h2 h3
  obtain ⟨s, e0, _, hs⟩ := DataW.trod_string Try.underlying9 h0
  obtain ⟨n1, e1, _, w1⟩ := DataW.trod_int Try.underlying39 h1
  obtain ⟨n2, e2, _, w2⟩ := DataW.trod_int Try.underlying22 h2
  obtain ⟨n3, e3, _, w3⟩ := DataW.trod_int Try.underlying2 h3
  simp at e0 e1 e2 e3
  subst e0 e1 e2 e3
  exact ⟨⟨s, n1, n2, n3⟩, rfl, ⟨wf_u8 w1, wf_u8 w2, wf_i64 w3⟩, hs⟩
theorem open_ins (n : Nat) (cs : List Value) (x : DataW H × List MemPlace) (h : DataW.trod enc Try.prog w base spare held n 38 cs = some x) : ∃ a : GIns, cs = encIns a ∧ a.Wf := by
  obtain ⟨y0, y1, y2, y3, m, _, hl, h0, h1, h2, h3⟩ := trod_struct4 Try.underlying38 h
  have hc : Try.prog.cellsOf 38 = 4 := by kernel_rfl
  obtain ⟨c0, c1, c2, c3, rfl⟩ := list4 (hl.trans hc)
  have k0 : Try.prog.cellsOf 36 = 1 := by kernel_rfl
  have k1 : Try.prog.cellsOf 22 = 1 := by kernel_rfl
  have k2 : Try.prog.cellsOf 3 = 1 := by kernel_rfl
  have k3 : Try.prog.cellsOf 2 = 1 := by kernel_rfl
  simp only [k0, k1, k2, k3] at h0 h1 h2 h3
  obtain ⟨n0, e0, _, w0⟩ := DataW.trod_int Try.underlying36 h0
  obtain ⟨n1, e1, _, w1⟩ := DataW.trod_int Try.underlying22 h1
  obtain ⟨n2, e2, _, w2⟩ := DataW.trod_int Try.underlying3 h2
  obtain ⟨n3, e3, _, w3⟩ := DataW.trod_int Try.underlying2 h3
  simp at e0 e1 e2 e3
  subst e0 e1 e2 e3
  exact ⟨⟨n0, n1, n2, n3⟩, rfl, ⟨wf_u8 w0, wf_u8 w1, wf_i64 w2, wf_i64 w3⟩⟩
theorem open_kind (n : Nat) (cs : List Value) (x : DataW H × List MemPlace) (h : DataW.trod enc Try.prog w base spare held n 42 cs = some x) : ∃ a : Int, cs = oneU8 a ∧ (0 ≤ a ∧ a ≤ 255) := by
  obtain ⟨n0, rfl, _, w0⟩ := DataW.trod_int Try.underlying42 h
  exact ⟨n0, rfl, wf_u8 w0⟩
set_option maxRecDepth 100000 in
theorem open_code {r : Reach} {b0 : Nat} {v : Value} {d : DataW H} {p : List MemPlace} (hv : Value.okWide Try.prog w r b0 32 v) (h : DataW.Trod enc Try.prog w base spare held 32 v d p) :
    ∃ (c : GCode) (vs bs is : Value), v = .agg #[.string c.name, vs, bs, is] ∧ CodeRd w c vs bs is ∧ c.Wf ∧ c.name.size ≤ maxLen ∧ ∀ x ∈ c.vars, x.name.size ≤ maxLen := by
  obtain ⟨v0, v1, v2, v3, y0, y1, y2, y3, n, rfl, _, _, h0, h1, h2, h3⟩ := open_agg4 Try.underlying32 (by kernel_rfl) (by kernel_rfl) hv h
  obtain ⟨s, e0, _, hs⟩ := DataW.trod_string Try.underlying9 h0
  obtain ⟨xs, r1, g1⟩ := open_rd Try.underlying28 (by kernel_rfl) encVar_len (by decide) open_var h1
  obtain ⟨ks, r2, g2⟩ := open_rd Try.underlying29 (by kernel_rfl) oneU8_len (by decide) open_kind h2
  obtain ⟨is, r3, g3⟩ := open_rd Try.underlying30 (by kernel_rfl) encIns_len (by decide) open_ins h3
  simp at e0
  subst e0
  exact ⟨⟨s, xs, ks, is⟩, v1, v2, v3, rfl, ⟨r1, r2, r3⟩, ⟨fun x hx => (g1 x hx).1, g2, g3⟩, hs, fun x hx => (g1 x hx).2⟩
end
end Go.Proofs.Ythiapebodpkamaa

