/- Words for the walks of CodeBack and CodeCuts. -/
import Derived.Test.YthiapebodpkamaaRead
import Derived.Test.YthiapebodpkamaaSameC
import Derived.Test.YthiapebodpkamaaGreat
import Derived.Test.YthiapebodpkamaaAwake
namespace Go.Proofs.Ythiapebodpkamaa
open Go.RowKit
/-- A program that came in, boxed. -/
abbrev bx13 (w : World) (c : GCode) (A1 A2 A3 : Option Addr) (c1 c2 c3 : Nat) : World := w.alloc (Obj.cells #[.string c.name, .slice A1 c.vars.length c1, .slice A2 c.blocks.length c2, .slice A3 c.ins.length c3] 32)
theorem bx_cells {w W : World} {c : GCode} {A1 A2 A3 : Option Addr} {c1 c2 c3 : Nat} (h : Below (bx13 w c A1 A2 A3 c1 c2 c3).heap.size (bx13 w c A1 A2 A3 c1 c2 c3) W) : W.cell? ⟨w.heap.size, 0, none⟩ = some (.string c.name) ∧ W.cell? ⟨w.heap.size, 1, none⟩ = some (.slice A1 c.vars.length c1) ∧ W.cell? ⟨w.heap.size, 2, none⟩ = some (.slice A2 c.blocks.length c2) ∧ W.cell? ⟨w.heap.size, 3, none⟩ = some (.slice A3 c.ins.length c3) :=
  sc_row4 ((h.block w.heap.size (by simp)).trans (heap_alloc_new w _))
set_option maxHeartbeats 1000000 in
set_option maxRecDepth 100000 in
theorem bytes_no (c : GCode) (hw : c.Wf) (hn : (c.ins.length : Int) < 9223372036854775807) (vs bs is : Value) (w : World) (h : CodeRd w c vs bs is) (hr : rightB c = false) :
    Calls Try.prog 28 #[.agg #[.string c.name, vs, bs, is]] w fun e w' => e = .returned (.tuple #[.slice none 0 0, .int .i64 130]) ∧ Below w.heap.size w w' := by
  obtain ⟨A1, c1, rfl⟩ : ∃ A c', vs = .slice A c.vars.length c' := by obtain ⟨_, A, c', h, _⟩ := h.vars; exact ⟨A, c', h⟩
  obtain ⟨A2, c2, rfl⟩ : ∃ A c', bs = .slice A c.blocks.length c' := by obtain ⟨_, A, c', h, _⟩ := h.blocks; exact ⟨A, c', h⟩
  obtain ⟨A3, c3, rfl⟩ : ∃ A c', is = .slice A c.ins.length c' := by obtain ⟨_, A, c', h, _⟩ := h.ins; exact ⟨A, c', h⟩
  have HB := Fact.mk (one_block w (.cells #[.string c.name, .slice A1 c.vars.length c1, .slice A2 c.blocks.length c2, .slice A3 c.ins.length c3] 32)).1
  have HRT := Fact.mk (right_any c hw hn _ _ _ _ (h.below HB.out))
  rw [hr] at HRT
  clear h hr hw hn
  go_enter Try.func28, Try.ntmps28
  go_wp2_with fail
  refine HRT.out.mono ?_
  rintro e w1 ⟨rfl, hb1⟩
  have B1 := Fact.mk (HB.out.trans (hb1.mono HB.out.size))
  clear hb1 HRT
  go_wp2_with fail
  go_ret2
  exact ⟨rfl, B1.out⟩
/-- The text of a row of bytes. -/
theorem str_back {W : World} {v : Value} {xs : List Int} (h : Rd oneU8 1 W v xs) : (convert 62 9 v).run Try.prog W = .ok (.string (strOfNums xs)) W :=
  conv_back h 62 9 5 Try.underlying62 Try.underlying5 Try.underlying9
end Go.Proofs.Ythiapebodpkamaa

