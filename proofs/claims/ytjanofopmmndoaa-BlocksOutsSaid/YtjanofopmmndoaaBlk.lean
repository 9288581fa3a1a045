/- Blocks as Lean data: which are right, and what a run makes of one. Plain Lean, no program in sight. -/
import Derived.Test.YtjanofopmmndoaaPins
namespace Go.Proofs.Ytjanofopmmndoaa
open Go.RowKit
structure GBlock where
  kind : Int
  w0 : Bool
  w1 : Bool
  ran : Bool
  going : Bool
  frm : Int
  et : Int
  cv : Int
  q : Bool
  p : Bool
def encBlk (b : GBlock) : List Value := [.int .u8 b.kind, .bool b.w0, .bool b.w1, .bool b.ran, .bool b.going, .int .i64 b.frm, .int .i64 b.et, .int .i64 b.cv, .bool b.q, .bool b.p]
def vBlk (b : GBlock) : Value := .agg #[.int .u8 b.kind, .bool b.w0, .bool b.w1, .bool b.ran, .bool b.going, .int .i64 b.frm, .int .i64 b.et, .int .i64 b.cv, .bool b.q, .bool b.p]
theorem encBlk_len (b : GBlock) : (encBlk b).length = 10 := rfl
structure GBlock.Wf (b : GBlock) : Prop where
  kind : 0 ≤ b.kind ∧ b.kind ≤ 255
  frm : -9223372036854775808 ≤ b.frm ∧ b.frm ≤ 9223372036854775807
  et : -9223372036854775808 ≤ b.et ∧ b.et ≤ 9223372036854775807
  cv : -9223372036854775808 ≤ b.cv ∧ b.cv ≤ 9223372036854775807
/-- The bounds of the numbers of a right block. -/
def bndB (b : GBlock) : Bool := decide (0 ≤ b.frm) && decide (b.frm ≤ 1125899906842624) && decide (0 ≤ b.et) && decide (b.et ≤ 1125899906842624) && decide (-2147483648 ≤ b.cv) && decide (b.cv ≤ 2147483647)
/-- What a kind may hold beside its kind and its output. -/
def useB (b : GBlock) : Bool :=
  if b.kind = 1 ∨ b.kind = 2 ∨ b.kind = 3 then !b.w1 && !b.ran && (b.going || decide (b.frm = 0)) && decide (b.cv = 0) && !b.p
  else if b.kind = 4 ∨ b.kind = 5 then !b.w1 && !b.ran && !b.going && decide (b.frm = 0) && decide (b.et = 0) && !b.p
  else if b.kind = 6 then !b.ran && !b.going && decide (b.frm = 0) && decide (b.et = 0)
  else if b.kind = 7 ∨ b.kind = 8 then !b.w1 && !b.ran && !b.going && decide (b.frm = 0) && decide (b.et = 0) && decide (b.cv = 0) && !b.p
  else if b.kind = 9 ∨ b.kind = 10 then !b.w0 && !b.w1 && !b.ran && !b.going && decide (b.frm = 0) && decide (b.et = 0) && decide (b.cv = 0) && !b.p
  else if b.kind = 11 then !b.going && decide (b.frm = 0) && decide (b.et = 0) && !b.p
  else false
def rightBlk (b : GBlock) : Bool := bndB b && useB b
end Go.Proofs.Ytjanofopmmndoaa
