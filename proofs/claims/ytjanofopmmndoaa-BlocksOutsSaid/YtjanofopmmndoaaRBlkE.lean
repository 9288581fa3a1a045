/- Two flags held against two. -/
import Derived.Test.YtjanofopmmndoaaBlk
import Derived.RegionTactic
namespace Go.Proofs.Ytjanofopmmndoaa
open Go.RowKit
theorem eq_two (a b c d : Bool) (w : World) : (Op.equalIn 9999 23 (.agg #[.bool a, .bool b]) (.agg #[.bool c, .bool d])).run Try.prog w = .ok (a == c && b == d) w := by
  cases a <;> cases b <;> cases c <;> cases d <;> kernel_rfl
theorem useB_odd {b : GBlock} (h : b.kind < 1 ∨ 11 < b.kind) : useB b = false := by
  unfold useB
  rw [if_neg (by omega), if_neg (by omega), if_neg (by omega), if_neg (by omega), if_neg (by omega), if_neg (by omega)]
end Go.Proofs.Ytjanofopmmndoaa
