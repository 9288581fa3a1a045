/- Contract of blockhouseref15.Right. -/
import Derived.Test.YtjanofopmmndoaaRefRA
import Derived.Test.YtjanofopmmndoaaRefRB
namespace Go.Proofs.Ytjanofopmmndoaa
open Go.RowKit
theorem refr_any (b : GBlock) (w : World) : Calls Try.prog 14 #[vBlk b] w fun e w' => e = .returned (.bool (rightBlk b)) ∧ Below w.heap.size w w' := by
  cases hb : bndB b with
  | false =>
    have h : rightBlk b = false := by simp [rightBlk, hb]
    rw [h]; exact refr_out b hb w
  | true =>
    have h : rightBlk b = useB b := by simp [rightBlk, hb]
    rw [h]
    by_cases hk : b.kind < 1 ∨ 11 < b.kind
    · rw [useB_odd hk]; exact refr_odd b hk hb w
    · rcases (by omega : b.kind = 1 ∨ b.kind = 2 ∨ b.kind = 3 ∨ b.kind = 4 ∨ b.kind = 5 ∨ b.kind = 6 ∨ b.kind = 7 ∨ b.kind = 8 ∨ b.kind = 9 ∨ b.kind = 10 ∨ b.kind = 11) with hk | hk | hk | hk | hk | hk | hk | hk | hk | hk | hk
      · exact refr_1 b hk hb w
      · exact refr_2 b hk hb w
      · exact refr_3 b hk hb w
      · exact refr_4 b hk hb w
      · exact refr_5 b hk hb w
      · exact refr_6 b hk hb w
      · exact refr_7 b hk hb w
      · exact refr_8 b hk hb w
      · exact refr_9 b hk hb w
      · exact refr_10 b hk hb w
      · exact refr_11 b hk hb w
end Go.Proofs.Ytjanofopmmndoaa

