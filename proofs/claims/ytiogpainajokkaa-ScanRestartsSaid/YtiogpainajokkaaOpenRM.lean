/- Scans that come in, opened to Lean data. -/
import Derived.Test.YtiogpainajokkaaOpenG
import Derived.Test.YtiogpainajokkaaPlyM
import Derived.Test.YtiogpainajokkaaBaseM
import Derived.Test.YtiogpainajokkaaSpotsM
import Derived.Lib.SmallJoins
namespace Go.Proofs.Ytiogpainajokkaa
open Go.RowKit Go.ChangeShapes Go.WideShapes Go.Deep Go.Joins
theorem some_at {α : Type} {o : Option α} {xs : List α} {i : Nat} (h : o = xs[i]?) (hl : i < xs.length) : ∃ y, o = some y := ⟨xs[i], by rw [h, List.getElem?_eq_getElem hl]⟩
section
variable {H : Type} {enc : TypeId × Value → H} {w : World} {base : Nat} {spare : Nat → Bool} {held : Bool}
theorem open_i64_el (n : Nat) (cs : List Value) (x : DataW H × List MemPlace) (h : DataW.trod enc Try.prog w base spare held n 2 cs = some x) : ∃ a : Int, cs = oneI64 a ∧ True := by
  obtain ⟨n0, rfl, _, _⟩ := DataW.trod_int Try.underlying2 h
  exact ⟨n0, rfl, trivial⟩
set_option maxRecDepth 100000 in
theorem open_go_el (n : Nat) (cs : List Value) (x : DataW H × List MemPlace) (h : DataW.trod enc Try.prog w base spare held n 104 cs = some x) : ∃ a : Value × Int, cs = encGo a ∧ GoOk w a := by
  obtain ⟨xs, m, _, _, hl, hx, hi⟩ := DataW.trod_struct Try.underlying104 h
  have hC : Try.prog.cellsOf 104 = 2 := by kernel_rfl
  obtain ⟨c0, c1, rfl⟩ : ∃ a b, cs = [a, b] := by
    match cs, hl.trans hC with
    | [a, b], _ => exact ⟨a, b, rfl⟩
  have hx2 : xs.length = 2 := hx
  have k0 : Try.prog.cellsOf 31 = 1 := by kernel_rfl
  have k1 : Try.prog.cellsOf 92 = 1 := by kernel_rfl
  obtain ⟨y0, h0⟩ := some_at (hi 0 _ rfl) (by omega)
  obtain ⟨y1, h1⟩ := some_at (hi 1 _ rfl) (by omega)
  have H0 := (congrArg (fun n => DataW.trod enc Try.prog w base spare held _ 31 (([c0, c1].drop 0).take n)) k0).symm.trans h0
  have H1 := (congrArg (fun n => DataW.trod enc Try.prog w base spare held _ 92 (([c0, c1].drop 1).take n)) k1).symm.trans h1
  obtain ⟨n1, e1, _, w1⟩ := DataW.trod_int Try.underlying92 H1
  have E1 : c1 = .int .u16 n1 := by simpa using e1
  obtain ⟨ys, hr, _⟩ := open_rd (en := oneI64) Try.underlying31 (by kernel_rfl) oneI64_len (by decide) open_i64_el (v := c0) H0
  have hb : 0 ≤ n1 ∧ n1 ≤ 65535 := by simpa [Lit.wf, IntKind.min, IntKind.max, IntKind.bits, IntKind.signed] using w1
  exact ⟨(c0, n1), by rw [E1]; rfl, ⟨ys, hr⟩, hb.1, hb.2⟩
end
end Go.Proofs.Ytiogpainajokkaa

namespace Go.Proofs.Ytiogpainajokkaa
open Go.RowKit Go.ChangeShapes Go.WideShapes Go.Deep Go.Joins
theorem list4 {α : Type} {l : List α} (h : l.length = 4) : ∃ a b c d, l = [a, b, c, d] := by
  match l, h with
  | [a, b, c, d], _ => exact ⟨a, b, c, d, rfl⟩
section
variable {H : Type} {enc : TypeId × Value → H} {w : World} {base : Nat} {spare : Nat → Bool} {held : Bool}
theorem open_var (n : Nat) (cs : List Value) (x : DataW H × List MemPlace) (h : DataW.trod enc Try.prog w base spare held n 43 cs = some x) : ∃ a : GVar, cs = encVar a ∧ (a.Wf ∧ a.name.size ≤ maxLen) := by
  obtain ⟨y0, y1, y2, y3, m, _, hl, h0, h1, h2, h3⟩ := trod_struct4 Try.underlying43 h
  have hc : Try.prog.cellsOf 43 = 4 := by kernel_rfl
  obtain ⟨c0, c1, c2, c3, rfl⟩ := list4 (hl.trans hc)
  have k0 : Try.prog.cellsOf 9 = 1 := by kernel_rfl
  have k1 : Try.prog.cellsOf 40 = 1 := by kernel_rfl
  have k2 : Try.prog.cellsOf 41 = 1 := by kernel_rfl
  have k3 : Try.prog.cellsOf 2 = 1 := by kernel_rfl
  simp only [k0, k1, k2, k3] at h0 h1 h2 h3
  obtain ⟨s, e0, _, hs⟩ := DataW.trod_string Try.underlying9 h0
  obtain ⟨n1, e1, _, w1⟩ := DataW.trod_int Try.underlying40 h1
  obtain ⟨n2, e2, _, w2⟩ := DataW.trod_int Try.underlying41 h2
  obtain ⟨n3, e3, _, w3⟩ := DataW.trod_int Try.underlying2 h3
  simp at e0 e1 e2 e3
  subst e0 e1 e2 e3
  exact ⟨⟨s, n1, n2, n3⟩, rfl, ⟨wf_u8 w1, wf_u8 w2, wf_i64 w3⟩, hs⟩
theorem open_ins (n : Nat) (cs : List Value) (x : DataW H × List MemPlace) (h : DataW.trod enc Try.prog w base spare held n 49 cs = some x) : ∃ a : GIns, cs = encIns a ∧ a.Wf := by
  obtain ⟨y0, y1, y2, y3, m, _, hl, h0, h1, h2, h3⟩ := trod_struct4 Try.underlying49 h
  have hc : Try.prog.cellsOf 49 = 4 := by kernel_rfl
  obtain ⟨c0, c1, c2, c3, rfl⟩ := list4 (hl.trans hc)
  have k0 : Try.prog.cellsOf 47 = 1 := by kernel_rfl
  have k1 : Try.prog.cellsOf 41 = 1 := by kernel_rfl
  have k2 : Try.prog.cellsOf 3 = 1 := by kernel_rfl
  have k3 : Try.prog.cellsOf 2 = 1 := by kernel_rfl
  simp only [k0, k1, k2, k3] at h0 h1 h2 h3
  obtain ⟨n0, e0, _, w0⟩ := DataW.trod_int Try.underlying47 h0
  obtain ⟨n1, e1, _, w1⟩ := DataW.trod_int Try.underlying41 h1
  obtain ⟨n2, e2, _, w2⟩ := DataW.trod_int Try.underlying3 h2
  obtain ⟨n3, e3, _, w3⟩ := DataW.trod_int Try.underlying2 h3
  simp at e0 e1 e2 e3
  subst e0 e1 e2 e3
  exact ⟨⟨n0, n1, n2, n3⟩, rfl, ⟨wf_u8 w0, wf_u8 w1, wf_i64 w2, wf_i64 w3⟩⟩
theorem open_kind (n : Nat) (cs : List Value) (x : DataW H × List MemPlace) (h : DataW.trod enc Try.prog w base spare held n 59 cs = some x) : ∃ a : Int, cs = oneU8 a ∧ (0 ≤ a ∧ a ≤ 255) := by
  obtain ⟨n0, rfl, _, w0⟩ := DataW.trod_int Try.underlying59 h
  exact ⟨n0, rfl, wf_u8 w0⟩
set_option maxRecDepth 100000 in
theorem open_code {r : Reach} {b0 : Nat} {v : Value} {d : DataW H} {p : List MemPlace} (hv : Value.okWide Try.prog w r b0 26 v) (h : DataW.Trod enc Try.prog w base spare held 26 v d p) :
    ∃ (c : GCode) (vs bs is : Value), v = .agg #[.string c.name, vs, bs, is] ∧ CodeRd w c vs bs is ∧ c.Wf ∧ c.name.size ≤ maxLen ∧ ∀ x ∈ c.vars, x.name.size ≤ maxLen := by
  obtain ⟨v0, v1, v2, v3, y0, y1, y2, y3, n, rfl, _, _, h0, h1, h2, h3⟩ := open_agg4 Try.underlying26 (by kernel_rfl) (by kernel_rfl) hv h
  obtain ⟨s, e0, _, hs⟩ := DataW.trod_string Try.underlying9 h0
  obtain ⟨xs, r1, g1⟩ := open_rd Try.underlying22 (by kernel_rfl) encVar_len (by decide) open_var h1
  obtain ⟨ks, r2, g2⟩ := open_rd Try.underlying23 (by kernel_rfl) oneU8_len (by decide) open_kind h2
  obtain ⟨is, r3, g3⟩ := open_rd Try.underlying24 (by kernel_rfl) encIns_len (by decide) open_ins h3
  simp at e0
  subst e0
  exact ⟨⟨s, xs, ks, is⟩, v1, v2, v3, rfl, ⟨r1, r2, r3⟩, ⟨fun x hx => (g1 x hx).1, g2, g3⟩, hs, fun x hx => (g1 x hx).2⟩
end
end Go.Proofs.Ytiogpainajokkaa

