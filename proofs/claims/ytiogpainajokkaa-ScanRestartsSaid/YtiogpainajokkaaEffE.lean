/- effect: signs of two. -/
import Derived.Test.YtiogpainajokkaaChkM
namespace Go.Proofs.Ytiogpainajokkaa
open Go.RowKit
set_option maxRecDepth 100000 in
set_option maxHeartbeats 4000000 in
theorem eff_sign (w : World) (X : Nat) (c : GCode) (vs bs is sp sv : Value) (i : GIns) (s : List Int) (_hC : ChkAt w X c vs bs is sp) (hs : Rd oneU8 1 w sv s) (ho : 4 ≤ i.op ∧ i.op ≤ 11) (hf : fitsB c i = true) : Calls Try.prog 120 #[.pointer (some ⟨X, 0, none⟩), vIns i, sv] w (EffPost w (effB c i s)) := by
  obtain ⟨op, t, a, n⟩ := i
  replace ho : 4 ≤ op ∧ op ≤ 11 := ho
  obtain ⟨A, c0, rfl⟩ : ∃ A c0, sv = .slice A s.length c0 := by
    obtain ⟨_, A, c0, e, _⟩ := hs
    exact ⟨A, c0, e⟩
  clear hs hf _hC
  have hr : effB c ⟨op, t, a, n⟩ s = ([t, t], [t]) := by
    unfold effB
    rw [if_neg (by show ¬ op = 1; omega), if_neg (by show ¬ op = 2; omega), if_neg (by show ¬ op = 3; omega), if_pos ho]
  have HR := Fact.mk hr
  have e1 : (op == 1) = false := beq_eq_false_iff_ne.2 (by omega)
  have e2 : (op == 2) = false := beq_eq_false_iff_ne.2 (by omega)
  have e3 : (op == 3) = false := beq_eq_false_iff_ne.2 (by omega)
  have HO := Fact.mk ho
  clear hr ho
  unfold vIns
  go_enter Try.func120, Try.ntmps120
  go_upto_if 48 with (fail)
  go_cut [48] (fun s48 wx => s48 = .bool true ∧ wx = w.alloc (.cells #[.int .u8 op, .int .u8 t, .int .i64 a, .int .i64 n] 49))
  case first =>
    clear e1 e2 e3 HR
    rcases (by have := HO.out; omega : op = 4 ∨ op = 5 ∨ op = 6 ∨ op = 7 ∨ op = 8 ∨ op = 9 ∨ op = 10 ∨ op = 11) with rfl | rfl | rfl | rfl | rfl | rfl | rfl | rfl
    all_goals
      go_wp2_with fail
      go_meet
      exact ⟨rfl, rfl⟩
  case rest =>
    obtain ⟨rfl, rfl⟩ := hcut
    go_wp2_with fail
    go_region_with (go_at_call 152; refine (id_any _ _ _ _ rfl _).mono ?_; rintro e w1 ⟨rfl, rfl⟩)
    all_goals go_wp2
    all_goals go_ret2
    all_goals first
      | refine eff_pair (T := 41) (m1 := w.heap.size + 1) (m2 := w.heap.size + 1 + 1) [t, t] [t] (HR.out) rfl (by simp) (by simp) ?_ ?_ ?_
      | refine eff_pair (T := 41) (m1 := w.heap.size + 1 + 1) (m2 := w.heap.size + 1) [t, t] [t] (HR.out) rfl (by simp) (by simp) ?_ ?_ ?_
    all_goals first
      | exact (tri w _ _ _).1
      | exact (tri w _ _ _).2.1
      | exact (tri w _ _ _).2.2
end Go.Proofs.Ytiogpainajokkaa

