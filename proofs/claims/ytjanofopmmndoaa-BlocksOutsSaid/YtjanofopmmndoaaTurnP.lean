/- A turning disk, plainly: what a run makes of one. -/
import Derived.Test.YtjanofopmmndoaaLnew
namespace Go.Proofs.Ytjanofopmmndoaa
open Go.RowKit
def dkB (w0 w1 ran : Bool) (cv : Int) (q : Bool) : GBlock := ⟨11, w0, w1, ran, false, 0, 0, cv, q, false⟩
theorem right_dk {w0 w1 ran q : Bool} {cv : Int} (h1 : -1000 ≤ cv) (h2 : cv ≤ 1000) : rightBlk (dkB w0 w1 ran cv q) = true := by
  have a1 : decide (-2147483648 ≤ cv) = true := decide_eq_true (by omega)
  have a2 : decide (cv ≤ 2147483647) = true := decide_eq_true (by omega)
  unfold rightBlk bndB useB dkB
  simp only [a1, a2]
  rfl
theorem onB_1 (x y : Bool) (l : List Int) : onB (truthI x :: truthI y :: l) 1 = y := by cases y <;> rfl
theorem onB_2 (x y z : Bool) (l : List Int) : onB (truthI x :: truthI y :: truthI z :: l) 2 = z := by cases z <;> rfl
theorem may_dk {w0 w1 ran q : Bool} {cv : Int} (h1 : -1000 ≤ cv) (h2 : cv ≤ 1000) (x y z : Bool) : mayB (dkB w0 w1 ran cv q) [truthI x, truthI y, truthI z] 0 = 0 := by
  have ho : okIns [1, 1, 1] [truthI x, truthI y, truthI z] = true := by cases x <;> cases y <;> cases z <;> rfl
  have hp : pinsIn (dkB w0 w1 ran cv q).kind = [1, 1, 1] := rfl
  unfold mayB
  rw [if_pos (right_dk h1 h2), hp, ho]
  rfl
theorem run_dk {w0 w1 ran q : Bool} {cv : Int} (h1 : -1000 ≤ cv) (h2 : cv ≤ 1000) (x y z : Bool) : runB (dkB w0 w1 ran cv q) [truthI x, truthI y, truthI z] 0 = (dkB x y true (cvD cv z ran (turnOf x y w0 w1)) (qD q z ran (turnOf x y w0 w1)), 0) := by
  unfold runB
  rw [if_pos (may_dk h1 h2 x y z)]
  unfold stepB
  rw [if_neg (by simp [dkB]), if_neg (by simp [dkB]), if_neg (by simp [dkB]), if_neg (by simp [dkB]), if_neg (by simp [dkB]), if_neg (by simp [dkB]), onB_truth, onB_1, onB_2]
  rfl
theorem outs_dk {w0 w1 ran q : Bool} {cv : Int} (h1 : -1000 ≤ cv) (h2 : cv ≤ 1000) : outsB (dkB w0 w1 ran cv q) = [cv, truthI q] := by
  unfold outsB
  rw [if_pos (right_dk h1 h2)]
  rfl
/-- Where the two tracks are at a place of the way around. -/
def tr0 (a : Nat) : Bool := a == 1 || a == 2
def tr1 (a : Nat) : Bool := a == 2 || a == 3
theorem turn_at {a n : Nat} (ha : a < 4) (hn : n < 4) : turnOf (tr0 n) (tr1 n) (tr0 a) (tr1 a) = (n + 4 - a) % 4 := by
  rcases (by omega : a = 0 ∨ a = 1 ∨ a = 2 ∨ a = 3) with rfl | rfl | rfl | rfl <;> rcases (by omega : n = 0 ∨ n = 1 ∨ n = 2 ∨ n = 3) with rfl | rfl | rfl | rfl <;> rfl
end Go.Proofs.Ytjanofopmmndoaa
