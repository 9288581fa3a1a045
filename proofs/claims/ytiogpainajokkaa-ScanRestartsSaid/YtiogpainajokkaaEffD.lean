/- effect: signs of one. -/
import Derived.Test.YtiogpainajokkaaChkM
namespace Go.Proofs.Ytiogpainajokkaa
open Go.RowKit
set_option maxRecDepth 100000 in
set_option maxHeartbeats 4000000 in
theorem eff_12 (w : World) (X : Nat) (c : GCode) (vs bs is sp sv : Value) (i : GIns) (s : List Int) (_hC : ChkAt w X c vs bs is sp) (hs : Rd oneU8 1 w sv s) (ho : i.op = 12) (hf : fitsB c i = true) : Calls Try.prog 120 #[.pointer (some ⟨X, 0, none⟩), vIns i, sv] w (EffPost w (effB c i s)) := by
  obtain ⟨op, t, a, n⟩ := i
  obtain rfl : op = 12 := ho
  obtain ⟨A, c0, rfl⟩ : ∃ A c0, sv = .slice A s.length c0 := by
    obtain ⟨_, A, c0, e, _⟩ := hs
    exact ⟨A, c0, e⟩
  clear hs hf _hC
  unfold vIns
  go_enter Try.func120, Try.ntmps120
  go_wp2_with fail
  go_region_with (go_at_call 152; refine (id_any _ _ _ _ rfl _).mono ?_; rintro e w1 ⟨rfl, rfl⟩)
  all_goals go_wp2
  all_goals go_ret2
  all_goals first
    | refine eff_pair (T := 41) (m1 := w.heap.size + 1) (m2 := w.heap.size + 1 + 1) [t] [t] (rfl) rfl (by simp) (by simp) ?_ ?_ ?_
    | refine eff_pair (T := 41) (m1 := w.heap.size + 1 + 1) (m2 := w.heap.size + 1) [t] [t] (rfl) rfl (by simp) (by simp) ?_ ?_ ?_
  all_goals first
    | exact (tri w _ _ _).1
    | exact (tri w _ _ _).2.1
    | exact (tri w _ _ _).2.2
set_option maxRecDepth 100000 in
set_option maxHeartbeats 4000000 in
theorem eff_15 (w : World) (X : Nat) (c : GCode) (vs bs is sp sv : Value) (i : GIns) (s : List Int) (_hC : ChkAt w X c vs bs is sp) (hs : Rd oneU8 1 w sv s) (ho : i.op = 15) (hf : fitsB c i = true) : Calls Try.prog 120 #[.pointer (some ⟨X, 0, none⟩), vIns i, sv] w (EffPost w (effB c i s)) := by
  obtain ⟨op, t, a, n⟩ := i
  obtain rfl : op = 15 := ho
  obtain ⟨A, c0, rfl⟩ : ∃ A c0, sv = .slice A s.length c0 := by
    obtain ⟨_, A, c0, e, _⟩ := hs
    exact ⟨A, c0, e⟩
  clear hs hf _hC
  unfold vIns
  go_enter Try.func120, Try.ntmps120
  go_wp2_with fail
  go_region_with (go_at_call 152; refine (id_any _ _ _ _ rfl _).mono ?_; rintro e w1 ⟨rfl, rfl⟩)
  all_goals go_wp2
  all_goals go_ret2
  all_goals first
    | refine eff_pair (T := 41) (m1 := w.heap.size + 1) (m2 := w.heap.size + 1 + 1) [a % 256] [t] (rfl) rfl (by simp) (by simp) ?_ ?_ ?_
    | refine eff_pair (T := 41) (m1 := w.heap.size + 1 + 1) (m2 := w.heap.size + 1) [a % 256] [t] (rfl) rfl (by simp) (by simp) ?_ ?_ ?_
  all_goals first
    | exact (tri w _ _ _).1
    | exact (tri w _ _ _).2.1
    | exact (tri w _ _ _).2.2
end Go.Proofs.Ytiogpainajokkaa

