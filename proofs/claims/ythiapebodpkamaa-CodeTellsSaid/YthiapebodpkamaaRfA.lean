/- Small contracts of blockhouseref13. Printed by gen_r13.py. -/
import Derived.Test.YthiapebodpkamaaRightLaw
import Derived.Test.YthiapebodpkamaaPins
namespace Go.Proofs.Ythiapebodpkamaa
open Go.RowKit
theorem rRange_any (t : Int) (w : World) : Calls Try.prog 32 #[.int .u8 t] w fun e w' => e = .returned (.tuple #[.int .i64 (rangeOf t).1, .int .i64 (rangeOf t).2]) ∧ w = w' := by
  unfold rangeOf
  go_enter Try.func32, Try.ntmps32
  go_wp2
  all_goals go_ret2
  all_goals (refine ⟨?_, rfl⟩; simp_all)
theorem rName_any (s : ByteArray) (w : World) : Calls Try.prog 65 #[.string s] w fun e w' => e = .returned (.bool (namedB s)) ∧ w = w' := by
  have e40 : decide ((s.size : Int) ≤ 40) = decide (s.size ≤ 40) := by rw [decide_eq_decide]; omega
  unfold namedB
  go_enter Try.func65, Try.ntmps65
  go_wp2
  all_goals go_ret
  all_goals (refine ⟨?_, rfl⟩; first | (simp_all; done) | (simp_all; omega))
theorem rKind_any (n : Int) (w : World) : Calls Try.prog 66 #[.int .i64 n] w fun e w' => e = .returned (.bool (typedB n)) ∧ w = w' := by
  unfold typedB
  go_enter Try.func66, Try.ntmps66
  go_wp2
  all_goals go_ret
  all_goals (refine ⟨?_, rfl⟩; first | (simp_all; done) | (simp_all; omega))
theorem rWhole_any (n : Int) (w : World) : Calls Try.prog 89 #[.int .u8 n] w fun e w' => e = .returned (.bool (wholeB n)) ∧ w = w' := by
  have e : wholeB n = (decide (2 ≤ n) && decide (n ≤ 5)) := by
    unfold wholeB typedB
    rw [Bool.eq_iff_iff]
    simp only [Bool.and_eq_true, decide_eq_true_eq]
    omega
  rw [e]
  clear e
  go_enter Try.func89, Try.ntmps89
  go_wp2
  all_goals go_ret
  all_goals (refine ⟨?_, rfl⟩; first | (simp_all; done) | (simp_all; omega))
def RPinsPost (k : Int) (w : World) (e : Ending) (w' : World) : Prop := ∃ v1 v2, e = .returned (.tuple #[v1, v2]) ∧ Rd oneU8 1 w' v1 (pinsIn k) ∧ Rd oneU8 1 w' v2 (pinsOut k) ∧ Below w.heap.size w w'
theorem rd_lit13 (w : World) {m : Nat} (hm : m = w.heap.size) (xs : List Int) (T : TypeId) (h : xs.length ≤ 9223372036854775807) : Rd oneU8 1 (w.alloc (.cells (xs.flatMap oneU8).toArray T)) (.slice (some ⟨m, 0, none⟩) xs.length xs.length) xs := by
  subst hm
  exact rd_new oneU8 1 oneU8_len w xs T h
theorem rPins_any (k : Int) (w : World) : Calls Try.prog 34 #[.int .u8 k] w (RPinsPost k w) := by
  by_cases k1 : k = 1
  · subst k1
    go_enter Try.func34, Try.ntmps34
    go_wp2
    go_ret2
    exact ⟨_, _, rfl, (rd_lit13 w rfl [1, 5] 22 (by decide)).below (one_block _ _).1, rd_lit13 (w.alloc _) (by simp) [1, 5] 22 (by decide), (two_blocks w _ _).1⟩
  by_cases k2 : k = 2
  · subst k2
    go_enter Try.func34, Try.ntmps34
    go_wp2
    go_ret2
    exact ⟨_, _, rfl, (rd_lit13 w rfl [1, 5] 22 (by decide)).below (one_block _ _).1, rd_lit13 (w.alloc _) (by simp) [1, 5] 22 (by decide), (two_blocks w _ _).1⟩
  by_cases k3 : k = 3
  · subst k3
    go_enter Try.func34, Try.ntmps34
    go_wp2
    go_ret2
    exact ⟨_, _, rfl, (rd_lit13 w rfl [1, 5] 22 (by decide)).below (one_block _ _).1, rd_lit13 (w.alloc _) (by simp) [1, 5] 22 (by decide), (two_blocks w _ _).1⟩
  by_cases k4 : k = 4
  · subst k4
    go_enter Try.func34, Try.ntmps34
    go_wp2
    go_ret2
    exact ⟨_, _, rfl, (rd_lit13 w rfl [1, 1, 4] 22 (by decide)).below (one_block _ _).1, rd_lit13 (w.alloc _) (by simp) [1, 4] 22 (by decide), (two_blocks w _ _).1⟩
  by_cases k5 : k = 5
  · subst k5
    go_enter Try.func34, Try.ntmps34
    go_wp2
    go_ret2
    exact ⟨_, _, rfl, (rd_lit13 w rfl [1, 1, 4] 22 (by decide)).below (one_block _ _).1, rd_lit13 (w.alloc _) (by simp) [1, 4] 22 (by decide), (two_blocks w _ _).1⟩
  by_cases k6 : k = 6
  · subst k6
    go_enter Try.func34, Try.ntmps34
    go_wp2
    go_ret2
    exact ⟨_, _, rfl, (rd_lit13 w rfl [1, 1, 1, 1, 4] 22 (by decide)).below (one_block _ _).1, rd_lit13 (w.alloc _) (by simp) [1, 1, 4] 22 (by decide), (two_blocks w _ _).1⟩
  by_cases k7 : k = 7
  · subst k7
    go_enter Try.func34, Try.ntmps34
    go_wp2
    go_ret2
    exact ⟨_, _, rfl, (rd_lit13 w rfl [1] 22 (by decide)).below (one_block _ _).1, rd_lit13 (w.alloc _) (by simp) [1] 22 (by decide), (two_blocks w _ _).1⟩
  by_cases k8 : k = 8
  · subst k8
    go_enter Try.func34, Try.ntmps34
    go_wp2
    go_ret2
    exact ⟨_, _, rfl, (rd_lit13 w rfl [1] 22 (by decide)).below (one_block _ _).1, rd_lit13 (w.alloc _) (by simp) [1] 22 (by decide), (two_blocks w _ _).1⟩
  by_cases k9 : k = 9
  · subst k9
    go_enter Try.func34, Try.ntmps34
    go_wp2
    go_ret2
    exact ⟨_, _, rfl, (rd_lit13 w rfl [1, 1] 22 (by decide)).below (one_block _ _).1, rd_lit13 (w.alloc _) (by simp) [1] 22 (by decide), (two_blocks w _ _).1⟩
  by_cases k10 : k = 10
  · subst k10
    go_enter Try.func34, Try.ntmps34
    go_wp2
    go_ret2
    exact ⟨_, _, rfl, (rd_lit13 w rfl [1, 1] 22 (by decide)).below (one_block _ _).1, rd_lit13 (w.alloc _) (by simp) [1] 22 (by decide), (two_blocks w _ _).1⟩
  by_cases k11 : k = 11
  · subst k11
    go_enter Try.func34, Try.ntmps34
    go_wp2
    go_ret2
    exact ⟨_, _, rfl, (rd_lit13 w rfl [1, 1, 1] 22 (by decide)).below (one_block _ _).1, rd_lit13 (w.alloc _) (by simp) [4, 1] 22 (by decide), (two_blocks w _ _).1⟩
  have f1 : (k == 1) = false := beq_eq_false_iff_ne.2 k1
  have f2 : (k == 2) = false := beq_eq_false_iff_ne.2 k2
  have f3 : (k == 3) = false := beq_eq_false_iff_ne.2 k3
  have f4 : (k == 4) = false := beq_eq_false_iff_ne.2 k4
  have f5 : (k == 5) = false := beq_eq_false_iff_ne.2 k5
  have f6 : (k == 6) = false := beq_eq_false_iff_ne.2 k6
  have f7 : (k == 7) = false := beq_eq_false_iff_ne.2 k7
  have f8 : (k == 8) = false := beq_eq_false_iff_ne.2 k8
  have f9 : (k == 9) = false := beq_eq_false_iff_ne.2 k9
  have f10 : (k == 10) = false := beq_eq_false_iff_ne.2 k10
  have f11 : (k == 11) = false := beq_eq_false_iff_ne.2 k11
  have e1 : pinsIn k = [] := by unfold pinsIn pinStr; simp [k1, k2, k3, k4, k5, k6, k7, k8, k9, k10, k11]; rfl
  have e2 : pinsOut k = [] := by unfold pinsOut pinStr; simp [k1, k2, k3, k4, k5, k6, k7, k8, k9, k10, k11]; rfl
  unfold RPinsPost
  rw [e1, e2]
  clear e1 e2
  go_enter Try.func34, Try.ntmps34
  go_wp2
  go_ret2
  exact ⟨_, _, rfl, rd_nil _ _ _, rd_nil _ _ _, Below.refl _ _⟩
end Go.Proofs.Ythiapebodpkamaa

