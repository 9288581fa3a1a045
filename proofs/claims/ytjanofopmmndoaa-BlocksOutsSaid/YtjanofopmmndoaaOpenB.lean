/- A block that comes in by value, and runs that come in, opened to Lean data. -/
import Derived.Test.YtjanofopmmndoaaOpenG
import Derived.Test.YtjanofopmmndoaaRunSt
namespace Go.Proofs.Ytjanofopmmndoaa
open Go.RowKit Go.ChangeShapes Go.WideShapes Go.Deep Go.Joins
theorem list10 {α : Type} {l : List α} (h : l.length = 10) : ∃ a b c d e f g i j k, l = [a, b, c, d, e, f, g, i, j, k] := by
  match l, h with
  | [a, b, c, d, e, f, g, i, j, k], _ => exact ⟨a, b, c, d, e, f, g, i, j, k, rfl⟩
theorem some_at {α : Type} {o : Option α} {xs : List α} {i : Nat} (h : o = xs[i]?) (hl : i < xs.length) : ∃ y, o = some y := ⟨xs[i], by rw [h, List.getElem?_eq_getElem hl]⟩
section
variable {H : Type} {enc : TypeId × Value → H} {w : World} {base : Nat} {spare : Nat → Bool} {held : Bool}
theorem open_blk_cells {fuel : Nat} {cs : List Value} {x : DataW H × List MemPlace} (h : DataW.trod enc Try.prog w base spare held fuel 25 cs = some x) : ∃ b : GBlock, cs = encBlk b ∧ b.Wf := by
  obtain ⟨xs, n, _, _, hl, hx, hi⟩ := DataW.trod_struct Try.underlying25 h
  have hC : Try.prog.cellsOf 25 = 10 := by kernel_rfl
  obtain ⟨c0, c1, c2, c3, c4, c5, c6, c7, c8, c9, rfl⟩ := list10 (hl.trans hC)
  have hx9 : xs.length = 9 := hx
  have k0 : Try.prog.cellsOf 22 = 1 := by kernel_rfl
  have k1 : Try.prog.cellsOf 23 = 2 := by kernel_rfl
  have k2 : Try.prog.cellsOf 4 = 1 := by kernel_rfl
  have k3 : Try.prog.cellsOf 2 = 1 := by kernel_rfl
  obtain ⟨y0, h0⟩ := some_at (hi 0 _ rfl) (by omega)
  obtain ⟨y1, h1⟩ := some_at (hi 1 _ rfl) (by omega)
  obtain ⟨y2, h2⟩ := some_at (hi 2 _ rfl) (by omega)
  obtain ⟨y3, h3⟩ := some_at (hi 3 _ rfl) (by omega)
  obtain ⟨y4, h4⟩ := some_at (hi 4 _ rfl) (by omega)
  obtain ⟨y5, h5⟩ := some_at (hi 5 _ rfl) (by omega)
  obtain ⟨y6, h6⟩ := some_at (hi 6 _ rfl) (by omega)
  obtain ⟨y7, h7⟩ := some_at (hi 7 _ rfl) (by omega)
  obtain ⟨y8, h8⟩ := some_at (hi 8 _ rfl) (by omega)
  have H0 := (congrArg (fun n => DataW.trod enc Try.prog w base spare held _ 22 (([c0, c1, c2, c3, c4, c5, c6, c7, c8, c9].drop 0).take n)) k0).symm.trans h0
  have H1 := (congrArg (fun n => DataW.trod enc Try.prog w base spare held _ 23 (([c0, c1, c2, c3, c4, c5, c6, c7, c8, c9].drop 1).take n)) k1).symm.trans h1
  have H2 := (congrArg (fun n => DataW.trod enc Try.prog w base spare held _ 4 (([c0, c1, c2, c3, c4, c5, c6, c7, c8, c9].drop 3).take n)) k2).symm.trans h2
  have H3 := (congrArg (fun n => DataW.trod enc Try.prog w base spare held _ 4 (([c0, c1, c2, c3, c4, c5, c6, c7, c8, c9].drop 4).take n)) k2).symm.trans h3
  have H4 := (congrArg (fun n => DataW.trod enc Try.prog w base spare held _ 2 (([c0, c1, c2, c3, c4, c5, c6, c7, c8, c9].drop 5).take n)) k3).symm.trans h4
  have H5 := (congrArg (fun n => DataW.trod enc Try.prog w base spare held _ 2 (([c0, c1, c2, c3, c4, c5, c6, c7, c8, c9].drop 6).take n)) k3).symm.trans h5
  have H6 := (congrArg (fun n => DataW.trod enc Try.prog w base spare held _ 2 (([c0, c1, c2, c3, c4, c5, c6, c7, c8, c9].drop 7).take n)) k3).symm.trans h6
  have H7 := (congrArg (fun n => DataW.trod enc Try.prog w base spare held _ 4 (([c0, c1, c2, c3, c4, c5, c6, c7, c8, c9].drop 8).take n)) k2).symm.trans h7
  have H8 := (congrArg (fun n => DataW.trod enc Try.prog w base spare held _ 4 (([c0, c1, c2, c3, c4, c5, c6, c7, c8, c9].drop 9).take n)) k2).symm.trans h8
  obtain ⟨n0, e0, _, w0⟩ := DataW.trod_int Try.underlying22 H0
  obtain ⟨zs, m, _, _, _, hz, hzi⟩ := DataW.trod_array Try.underlying23 H1
  obtain ⟨z0, g0⟩ := some_at (hzi 0 (by decide)) (by omega)
  obtain ⟨z1, g1⟩ := some_at (hzi 1 (by decide)) (by omega)
  simp only [k2] at g0 g1
  obtain ⟨a0, f0, _⟩ := DataW.trod_bool Try.underlying4 g0
  obtain ⟨a1, f1, _⟩ := DataW.trod_bool Try.underlying4 g1
  obtain ⟨a2, e2, _⟩ := DataW.trod_bool Try.underlying4 H2
  obtain ⟨a3, e3, _⟩ := DataW.trod_bool Try.underlying4 H3
  obtain ⟨n4, e4, _, w4⟩ := DataW.trod_int Try.underlying2 H4
  obtain ⟨n5, e5, _, w5⟩ := DataW.trod_int Try.underlying2 H5
  obtain ⟨n6, e6, _, w6⟩ := DataW.trod_int Try.underlying2 H6
  obtain ⟨a7, e7, _⟩ := DataW.trod_bool Try.underlying4 H7
  obtain ⟨a8, e8, _⟩ := DataW.trod_bool Try.underlying4 H8
  have E0 : c0 = .int .u8 n0 := by simpa using e0
  have F0 : c1 = .bool a0 := by simpa using f0
  have F1 : c2 = .bool a1 := by simpa using f1
  have E2 : c3 = .bool a2 := by simpa using e2
  have E3 : c4 = .bool a3 := by simpa using e3
  have E4 : c5 = .int .i64 n4 := by simpa using e4
  have E5 : c6 = .int .i64 n5 := by simpa using e5
  have E6 : c7 = .int .i64 n6 := by simpa using e6
  have E7 : c8 = .bool a7 := by simpa using e7
  have E8 : c9 = .bool a8 := by simpa using e8
  exact ⟨⟨n0, a0, a1, a2, a3, n4, n5, n6, a7, a8⟩, by rw [E0, F0, F1, E2, E3, E4, E5, E6, E7, E8]; rfl, wf_u8 w0, wf_i64 w4, wf_i64 w5, wf_i64 w6⟩
theorem open_blk {r : Reach} {b0 : Nat} {v : Value} {d : DataW H} {p : List MemPlace} (hv : Value.okWide Try.prog w r b0 25 v) (h : DataW.Trod enc Try.prog w base spare held 25 v d p) : ∃ b : GBlock, v = vBlk b ∧ b.Wf := by
  obtain ⟨cs, rfl, hsz⟩ := okWide_struct Try.underlying25 hv
  obtain ⟨fuel, hf⟩ := h
  obtain ⟨b, hb, hw⟩ := open_blk_cells (cs := cs.toList) (by simpa [Value.cells] using hf)
  refine ⟨b, ?_, hw⟩
  have : cs = (encBlk b).toArray := by rw [← hb]
  rw [this]; rfl
def encGo (a : Value × Int) : List Value := [a.1, .int .u16 a.2]
theorem encGo_len (a : Value × Int) : (encGo a).length = 2 := rfl
/-- What a run that comes in is good for: its inputs read, its ticks are such. -/
def GoOk (w : World) (a : Value × Int) : Prop := (∃ xs, Rd oneI64 1 w a.1 xs) ∧ 0 ≤ a.2 ∧ a.2 ≤ 65535
theorem open_i64_el (n : Nat) (cs : List Value) (x : DataW H × List MemPlace) (h : DataW.trod enc Try.prog w base spare held n 2 cs = some x) : ∃ a : Int, cs = oneI64 a ∧ True := by
  obtain ⟨n0, rfl, _, _⟩ := DataW.trod_int Try.underlying2 h
  exact ⟨n0, rfl, trivial⟩
theorem open_go_el (n : Nat) (cs : List Value) (x : DataW H × List MemPlace) (h : DataW.trod enc Try.prog w base spare held n 36 cs = some x) : ∃ a : Value × Int, cs = encGo a ∧ GoOk w a := by
  obtain ⟨xs, m, _, _, hl, hx, hi⟩ := DataW.trod_struct Try.underlying36 h
  have hC : Try.prog.cellsOf 36 = 2 := by kernel_rfl
  obtain ⟨c0, c1, rfl⟩ : ∃ a b, cs = [a, b] := by
    match cs, hl.trans hC with
    | [a, b], _ => exact ⟨a, b, rfl⟩
  have hx2 : xs.length = 2 := hx
  have k0 : Try.prog.cellsOf 32 = 1 := by kernel_rfl
  have k1 : Try.prog.cellsOf 34 = 1 := by kernel_rfl
  obtain ⟨y0, h0⟩ := some_at (hi 0 _ rfl) (by omega)
  obtain ⟨y1, h1⟩ := some_at (hi 1 _ rfl) (by omega)
  have H0 := (congrArg (fun n => DataW.trod enc Try.prog w base spare held _ 32 (([c0, c1].drop 0).take n)) k0).symm.trans h0
  have H1 := (congrArg (fun n => DataW.trod enc Try.prog w base spare held _ 34 (([c0, c1].drop 1).take n)) k1).symm.trans h1
  obtain ⟨n1, e1, _, w1⟩ := DataW.trod_int Try.underlying34 H1
  have E1 : c1 = .int .u16 n1 := by simpa using e1
  obtain ⟨ys, hr, _⟩ := open_rd (en := oneI64) Try.underlying32 (by kernel_rfl) oneI64_len (by decide) open_i64_el (v := c0) H0
  have hb : 0 ≤ n1 ∧ n1 ≤ 65535 := by simpa [Lit.wf, IntKind.min, IntKind.max, IntKind.bits, IntKind.signed] using w1
  exact ⟨(c0, n1), by rw [E1]; rfl, ⟨ys, hr⟩, hb.1, hb.2⟩
end
end Go.Proofs.Ytjanofopmmndoaa
