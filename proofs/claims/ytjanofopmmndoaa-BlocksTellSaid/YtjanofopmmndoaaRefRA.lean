/- blockhouseref15.Right, kinds 1 to 6. -/
import Derived.Test.YtjanofopmmndoaaRBlkM
import Derived.Test.YtjanofopmmndoaaBaseM
import Derived.RegionTactic
namespace Go.Proofs.Ytjanofopmmndoaa
open Go.RowKit
set_option maxRecDepth 100000 in
set_option maxHeartbeats 800000 in
theorem refr_1 (b : GBlock) (hk : b.kind = 1) (hb : bndB b = true) (w : World) : Calls Try.prog 14 #[vBlk b] w fun e w' => e = .returned (.bool (useB b)) ∧ Below w.heap.size w w' := by
  obtain ⟨k, w0, w1, ran, going, frm, et, cv, q, p⟩ := b
  obtain rfl : k = 1 := hk
  simp only [bndB, Bool.and_eq_true, decide_eq_true_eq] at hb
  obtain ⟨⟨⟨⟨⟨b1, b2⟩, b3⟩, b4⟩, b5⟩, b6⟩ := hb
  have heq := eq_two
  unfold vBlk
  go_enter Try.func14, Try.ntmps14
  go_wp2
  all_goals go_ret
  all_goals clear heq
  all_goals refine ⟨ret_bool ?_, ?_⟩
  all_goals (first | (simp_all [useB]; done) | first | exact (((Below.refl _ _).alloc (Nat.le_refl _) _).alloc (by simp) _).drew | exact ((Below.refl _ _).alloc (Nat.le_refl _) _).alloc (by simp) _ | exact (Below.refl _ _).alloc (Nat.le_refl _) _)
set_option maxRecDepth 100000 in
set_option maxHeartbeats 800000 in
theorem refr_2 (b : GBlock) (hk : b.kind = 2) (hb : bndB b = true) (w : World) : Calls Try.prog 14 #[vBlk b] w fun e w' => e = .returned (.bool (useB b)) ∧ Below w.heap.size w w' := by
  obtain ⟨k, w0, w1, ran, going, frm, et, cv, q, p⟩ := b
  obtain rfl : k = 2 := hk
  simp only [bndB, Bool.and_eq_true, decide_eq_true_eq] at hb
  obtain ⟨⟨⟨⟨⟨b1, b2⟩, b3⟩, b4⟩, b5⟩, b6⟩ := hb
  have heq := eq_two
  unfold vBlk
  go_enter Try.func14, Try.ntmps14
  go_wp2
  all_goals go_ret
  all_goals clear heq
  all_goals refine ⟨ret_bool ?_, ?_⟩
  all_goals (first | (simp_all [useB]; done) | first | exact (((Below.refl _ _).alloc (Nat.le_refl _) _).alloc (by simp) _).drew | exact ((Below.refl _ _).alloc (Nat.le_refl _) _).alloc (by simp) _ | exact (Below.refl _ _).alloc (Nat.le_refl _) _)
set_option maxRecDepth 100000 in
set_option maxHeartbeats 800000 in
theorem refr_3 (b : GBlock) (hk : b.kind = 3) (hb : bndB b = true) (w : World) : Calls Try.prog 14 #[vBlk b] w fun e w' => e = .returned (.bool (useB b)) ∧ Below w.heap.size w w' := by
  obtain ⟨k, w0, w1, ran, going, frm, et, cv, q, p⟩ := b
  obtain rfl : k = 3 := hk
  simp only [bndB, Bool.and_eq_true, decide_eq_true_eq] at hb
  obtain ⟨⟨⟨⟨⟨b1, b2⟩, b3⟩, b4⟩, b5⟩, b6⟩ := hb
  have heq := eq_two
  unfold vBlk
  go_enter Try.func14, Try.ntmps14
  go_wp2
  all_goals go_ret
  all_goals clear heq
  all_goals refine ⟨ret_bool ?_, ?_⟩
  all_goals (first | (simp_all [useB]; done) | first | exact (((Below.refl _ _).alloc (Nat.le_refl _) _).alloc (by simp) _).drew | exact ((Below.refl _ _).alloc (Nat.le_refl _) _).alloc (by simp) _ | exact (Below.refl _ _).alloc (Nat.le_refl _) _)
set_option maxRecDepth 100000 in
set_option maxHeartbeats 800000 in
theorem refr_4 (b : GBlock) (hk : b.kind = 4) (hb : bndB b = true) (w : World) : Calls Try.prog 14 #[vBlk b] w fun e w' => e = .returned (.bool (useB b)) ∧ Below w.heap.size w w' := by
  obtain ⟨k, w0, w1, ran, going, frm, et, cv, q, p⟩ := b
  obtain rfl : k = 4 := hk
  simp only [bndB, Bool.and_eq_true, decide_eq_true_eq] at hb
  obtain ⟨⟨⟨⟨⟨b1, b2⟩, b3⟩, b4⟩, b5⟩, b6⟩ := hb
  have heq := eq_two
  unfold vBlk
  go_enter Try.func14, Try.ntmps14
  go_wp2
  all_goals go_ret
  all_goals clear heq
  all_goals refine ⟨ret_bool ?_, ?_⟩
  all_goals (first | (simp_all [useB]; done) | first | exact (((Below.refl _ _).alloc (Nat.le_refl _) _).alloc (by simp) _).drew | exact ((Below.refl _ _).alloc (Nat.le_refl _) _).alloc (by simp) _ | exact (Below.refl _ _).alloc (Nat.le_refl _) _)
set_option maxRecDepth 100000 in
set_option maxHeartbeats 800000 in
theorem refr_5 (b : GBlock) (hk : b.kind = 5) (hb : bndB b = true) (w : World) : Calls Try.prog 14 #[vBlk b] w fun e w' => e = .returned (.bool (useB b)) ∧ Below w.heap.size w w' := by
  obtain ⟨k, w0, w1, ran, going, frm, et, cv, q, p⟩ := b
  obtain rfl : k = 5 := hk
  simp only [bndB, Bool.and_eq_true, decide_eq_true_eq] at hb
  obtain ⟨⟨⟨⟨⟨b1, b2⟩, b3⟩, b4⟩, b5⟩, b6⟩ := hb
  have heq := eq_two
  unfold vBlk
  go_enter Try.func14, Try.ntmps14
  go_wp2
  all_goals go_ret
  all_goals clear heq
  all_goals refine ⟨ret_bool ?_, ?_⟩
  all_goals (first | (simp_all [useB]; done) | first | exact (((Below.refl _ _).alloc (Nat.le_refl _) _).alloc (by simp) _).drew | exact ((Below.refl _ _).alloc (Nat.le_refl _) _).alloc (by simp) _ | exact (Below.refl _ _).alloc (Nat.le_refl _) _)
set_option maxRecDepth 100000 in
set_option maxHeartbeats 800000 in
theorem refr_6 (b : GBlock) (hk : b.kind = 6) (hb : bndB b = true) (w : World) : Calls Try.prog 14 #[vBlk b] w fun e w' => e = .returned (.bool (useB b)) ∧ Below w.heap.size w w' := by
  obtain ⟨k, w0, w1, ran, going, frm, et, cv, q, p⟩ := b
  obtain rfl : k = 6 := hk
  simp only [bndB, Bool.and_eq_true, decide_eq_true_eq] at hb
  obtain ⟨⟨⟨⟨⟨b1, b2⟩, b3⟩, b4⟩, b5⟩, b6⟩ := hb
  have heq := eq_two
  unfold vBlk
  go_enter Try.func14, Try.ntmps14
  go_wp2
  all_goals go_ret
  all_goals clear heq
  all_goals refine ⟨ret_bool ?_, ?_⟩
  all_goals (first | (simp_all [useB]; done) | first | exact (((Below.refl _ _).alloc (Nat.le_refl _) _).alloc (by simp) _).drew | exact ((Below.refl _ _).alloc (Nat.le_refl _) _).alloc (by simp) _ | exact (Below.refl _ _).alloc (Nat.le_refl _) _)
end Go.Proofs.Ytjanofopmmndoaa

