/- effect: pushes, tests. -/
import Derived.Test.YthiapebodpkamaaEffA
namespace Go.Proofs.Ythiapebodpkamaa
open Go.RowKit
set_option maxRecDepth 100000 in
set_option maxHeartbeats 4000000 in
theorem eff_1 (w : World) (X : Nat) (c : GCode) (vs bs is sp sv : Value) (i : GIns) (s : List Int) (_hC : ChkAt w X c vs bs is sp) (hs : Rd oneU8 1 w sv s) (ho : i.op = 1) (hf : fitsB c i = true) : Calls Try.prog 78 #[.pointer (some ⟨X, 0, none⟩), vIns i, sv] w (EffPost w (effB c i s)) := by
  obtain ⟨op, t, a, n⟩ := i
  obtain rfl : op = 1 := ho
  obtain ⟨A, c0, rfl⟩ : ∃ A c0, sv = .slice A s.length c0 := by
    obtain ⟨_, A, c0, e, _⟩ := hs
    exact ⟨A, c0, e⟩
  clear hs hf _hC
  unfold vIns
  go_enter Try.func78, Try.ntmps78
  go_wp2_with (go_at_call 90; refine (id_any _ _ _ _ rfl _).mono ?_; rintro e w1 ⟨rfl, rfl⟩)
  go_ret2
  exact ⟨_, _, rfl, rd_nil _ _ _, rd_at (by simp) [t] _ (by simp), ((Below.refl _ _).alloc (Nat.le_refl _) _).alloc (by simp) _⟩
set_option maxRecDepth 100000 in
set_option maxHeartbeats 4000000 in
theorem eff_13 (w : World) (X : Nat) (c : GCode) (vs bs is sp sv : Value) (i : GIns) (s : List Int) (_hC : ChkAt w X c vs bs is sp) (hs : Rd oneU8 1 w sv s) (ho : i.op = 13) (hf : fitsB c i = true) : Calls Try.prog 78 #[.pointer (some ⟨X, 0, none⟩), vIns i, sv] w (EffPost w (effB c i s)) := by
  obtain ⟨op, t, a, n⟩ := i
  obtain rfl : op = 13 := ho
  obtain ⟨A, c0, rfl⟩ : ∃ A c0, sv = .slice A s.length c0 := by
    obtain ⟨_, A, c0, e, _⟩ := hs
    exact ⟨A, c0, e⟩
  clear hs hf _hC
  unfold vIns
  go_enter Try.func78, Try.ntmps78
  go_wp2_with (go_at_call 90; refine (id_any _ _ _ _ rfl _).mono ?_; rintro e w1 ⟨rfl, rfl⟩)
  go_ret2
  exact ⟨_, _, rfl, (rd_at (w := w.alloc _) (by simp) [t, t] _ (by simp)).below ((Below.refl _ _).alloc (Nat.le_refl _) _), rd_at (by simp) [1] _ (by simp), (((Below.refl _ _).alloc (Nat.le_refl _) _).alloc (by simp) _).alloc (by simp; omega) _⟩
set_option maxRecDepth 100000 in
set_option maxHeartbeats 4000000 in
theorem eff_14 (w : World) (X : Nat) (c : GCode) (vs bs is sp sv : Value) (i : GIns) (s : List Int) (_hC : ChkAt w X c vs bs is sp) (hs : Rd oneU8 1 w sv s) (ho : i.op = 14) (hf : fitsB c i = true) : Calls Try.prog 78 #[.pointer (some ⟨X, 0, none⟩), vIns i, sv] w (EffPost w (effB c i s)) := by
  obtain ⟨op, t, a, n⟩ := i
  obtain rfl : op = 14 := ho
  obtain ⟨A, c0, rfl⟩ : ∃ A c0, sv = .slice A s.length c0 := by
    obtain ⟨_, A, c0, e, _⟩ := hs
    exact ⟨A, c0, e⟩
  clear hs hf _hC
  unfold vIns
  go_enter Try.func78, Try.ntmps78
  go_wp2_with (go_at_call 90; refine (id_any _ _ _ _ rfl _).mono ?_; rintro e w1 ⟨rfl, rfl⟩)
  go_ret2
  exact ⟨_, _, rfl, (rd_at (w := w.alloc _) (by simp) [t, t] _ (by simp)).below ((Below.refl _ _).alloc (Nat.le_refl _) _), rd_at (by simp) [1] _ (by simp), (((Below.refl _ _).alloc (Nat.le_refl _) _).alloc (by simp) _).alloc (by simp; omega) _⟩
set_option maxRecDepth 100000 in
set_option maxHeartbeats 4000000 in
theorem eff_19 (w : World) (X : Nat) (c : GCode) (vs bs is sp sv : Value) (i : GIns) (s : List Int) (_hC : ChkAt w X c vs bs is sp) (hs : Rd oneU8 1 w sv s) (ho : i.op = 19) (hf : fitsB c i = true) : Calls Try.prog 78 #[.pointer (some ⟨X, 0, none⟩), vIns i, sv] w (EffPost w (effB c i s)) := by
  obtain ⟨op, t, a, n⟩ := i
  obtain rfl : op = 19 := ho
  obtain ⟨A, c0, rfl⟩ : ∃ A c0, sv = .slice A s.length c0 := by
    obtain ⟨_, A, c0, e, _⟩ := hs
    exact ⟨A, c0, e⟩
  clear hs hf _hC
  unfold vIns
  go_enter Try.func78, Try.ntmps78
  go_wp2_with (go_at_call 90; refine (id_any _ _ _ _ rfl _).mono ?_; rintro e w1 ⟨rfl, rfl⟩)
  go_ret2
  exact ⟨_, _, rfl, rd_at (by simp) [1] _ (by simp), rd_nil _ _ _, ((Below.refl _ _).alloc (Nat.le_refl _) _).alloc (by simp) _⟩
end Go.Proofs.Ythiapebodpkamaa

