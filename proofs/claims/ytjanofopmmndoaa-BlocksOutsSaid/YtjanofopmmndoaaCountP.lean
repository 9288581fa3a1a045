/- A counter both ways, plainly: what a run makes of one. -/
import Derived.Test.YtjanofopmmndoaaTurnP
namespace Go.Proofs.Ytjanofopmmndoaa
open Go.RowKit
def ctB (w0 w1 : Bool) (cv : Int) (q p : Bool) : GBlock := ⟨6, w0, w1, false, false, 0, 0, cv, q, p⟩
theorem right_ct {w0 w1 q p : Bool} {cv : Int} (h1 : -2147483648 ≤ cv) (h2 : cv ≤ 2147483647) : rightBlk (ctB w0 w1 cv q p) = true := by
  have a1 : decide (-2147483648 ≤ cv) = true := decide_eq_true h1
  have a2 : decide (cv ≤ 2147483647) = true := decide_eq_true h2
  unfold rightBlk bndB useB ctB
  simp only [a1, a2]
  rfl
theorem may_ct {w0 w1 q p : Bool} {cv pv : Int} (h1 : -2147483648 ≤ cv) (h2 : cv ≤ 2147483647) (p1 : -2147483648 ≤ pv) (p2 : pv ≤ 2147483647) (a b c d : Bool) : mayB (ctB w0 w1 cv q p) [truthI a, truthI b, truthI c, truthI d, pv] 0 = 0 := by
  have hv : inR 4 pv = true := by simp [inR, rangeOf, p1, p2]
  have ht : ∀ x : Bool, inR 1 (truthI x) = true := fun x => by cases x <;> rfl
  have ho : okIns [1, 1, 1, 1, 4] [truthI a, truthI b, truthI c, truthI d, pv] = true := by
    simp only [okIns, ht, hv, Bool.and_self]
  have hp : pinsIn (ctB w0 w1 cv q p).kind = [1, 1, 1, 1, 4] := rfl
  unfold mayB
  rw [if_pos (right_ct h1 h2), hp, ho]
  rfl
theorem onB_2' (x y z : Bool) (l : List Int) : onB (truthI x :: truthI y :: truthI z :: l) 2 = z := by cases z <;> rfl
theorem onB_3 (x y z u : Bool) (l : List Int) : onB (truthI x :: truthI y :: truthI z :: truthI u :: l) 3 = u := by cases u <;> rfl
theorem run_ct {w0 w1 q p : Bool} {cv pv : Int} (h1 : -2147483648 ≤ cv) (h2 : cv ≤ 2147483647) (p1 : -2147483648 ≤ pv) (p2 : pv ≤ 2147483647) (a b c d : Bool) :
    runB (ctB w0 w1 cv q p) [truthI a, truthI b, truthI c, truthI d, pv] 0 = (ctB a b (cntC cv pv c d (a && !w0) (b && !w1)) (decide (pv ≤ cntC cv pv c d (a && !w0) (b && !w1))) (decide (cntC cv pv c d (a && !w0) (b && !w1) ≤ 0)), 0) := by
  unfold runB
  rw [if_pos (may_ct h1 h2 p1 p2 a b c d)]
  have hk : (ctB w0 w1 cv q p).kind = 4 ∨ (ctB w0 w1 cv q p).kind = 5 ∨ (ctB w0 w1 cv q p).kind = 6 := .inr (.inr rfl)
  unfold stepB
  rw [if_neg (by simp [ctB]), if_pos hk, onB_truth]
  unfold counterB zeroC loadC upC downC qC
  rw [onB_1, onB_2', onB_3]
  have e6 : (ctB w0 w1 cv q p).kind = 6 := rfl
  rw [e6]
  have e5 : ((a && !(ctB w0 w1 cv q p).w0) && !decide ((6 : Int) = 5)) = (a && !w0) := by simp [ctB]
  rw [e5]
  rfl
theorem outs_ct {w0 w1 q p : Bool} {cv : Int} (h1 : -2147483648 ≤ cv) (h2 : cv ≤ 2147483647) : outsB (ctB w0 w1 cv q p) = [truthI q, truthI p, cv] := by
  unfold outsB
  rw [if_pos (right_ct h1 h2)]
  rfl
theorem cntC_in {cv pv : Int} (h1 : -2147483648 ≤ cv) (h2 : cv ≤ 2147483647) (p1 : -2147483648 ≤ pv) (p2 : pv ≤ 2147483647) (z l u d : Bool) : -2147483648 ≤ cntC cv pv z l u d ∧ cntC cv pv z l u d ≤ 2147483647 := by
  unfold cntC stepC
  cases z <;> cases l <;> cases u <;> cases d <;> simp <;> omega
end Go.Proofs.Ytjanofopmmndoaa
