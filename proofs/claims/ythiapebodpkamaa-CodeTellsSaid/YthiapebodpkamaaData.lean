/- The program's data as Lean structures, and how they stand as cells. -/
import Derived.Test.YthiapebodpkamaaWords
namespace Go.Proofs.Ythiapebodpkamaa
open Go.RowKit
structure GVar where
  name : ByteArray
  cls : Int
  ty : Int
  first : Int
structure GIns where
  op : Int
  t : Int
  a : Int
  n : Int
structure GCode where
  name : ByteArray
  vars : List GVar
  blocks : List Int
  ins : List GIns
def encVar (v : GVar) : List Value := [.string v.name, .int .u8 v.cls, .int .u8 v.ty, .int .i64 v.first]
def encIns (i : GIns) : List Value := [.int .u8 i.op, .int .u8 i.t, .int .i64 i.a, .int .i64 i.n]
theorem encVar_len (v : GVar) : (encVar v).length = 4 := rfl
theorem encIns_len (i : GIns) : (encIns i).length = 4 := rfl
/-- A program's slices read as they should. -/
structure CodeRd (w : World) (c : GCode) (vs bs is : Value) : Prop where
  vars : Rd encVar 4 w vs c.vars
  blocks : Rd oneU8 1 w bs c.blocks
  ins : Rd encIns 4 w is c.ins
theorem CodeRd.below {w w' : World} {c : GCode} {vs bs is : Value} (h : CodeRd w c vs bs is) (hb : Below w.heap.size w w') : CodeRd w' c vs bs is := ⟨h.vars.below hb, h.blocks.below hb, h.ins.below hb⟩
structure GIns.Wf (i : GIns) : Prop where
  op : 0 ≤ i.op ∧ i.op ≤ 255
  t : 0 ≤ i.t ∧ i.t ≤ 255
  a : -9223372036854775808 ≤ i.a ∧ i.a ≤ 9223372036854775807
  n : -9223372036854775808 ≤ i.n ∧ i.n ≤ 9223372036854775807
structure GVar.Wf (v : GVar) : Prop where
  cls : 0 ≤ v.cls ∧ v.cls ≤ 255
  ty : 0 ≤ v.ty ∧ v.ty ≤ 255
  first : -9223372036854775808 ≤ v.first ∧ v.first ≤ 9223372036854775807
structure GCode.Wf (c : GCode) : Prop where
  vars : ∀ v ∈ c.vars, v.Wf
  blocks : ∀ b ∈ c.blocks, 0 ≤ b ∧ b ≤ 255
  ins : ∀ i ∈ c.ins, i.Wf
end Go.Proofs.Ythiapebodpkamaa

