/- blocks.Right, kinds 6 to 11. -/
import Derived.Test.YtjanofopmmndoaaRBlkE
import Derived.Test.YtjanofopmmndoaaBlk
import Derived.RegionTactic
namespace Go.Proofs.Ytjanofopmmndoaa
open Go.RowKit
set_option maxRecDepth 100000 in
set_option maxHeartbeats 800000 in
theorem rblk_6 (b : GBlock) (hk : b.kind = 6) (hb : bndB b = true) (w : World) : Calls Try.prog 13 #[vBlk b] w fun e w' => e = .returned (.bool (useB b)) ∧ Below w.heap.size w w' := by
  obtain ⟨k, w0, w1, ran, going, frm, et, cv, q, p⟩ := b
  obtain rfl : k = 6 := hk
  simp only [bndB, Bool.and_eq_true, decide_eq_true_eq] at hb
  obtain ⟨⟨⟨⟨⟨b1, b2⟩, b3⟩, b4⟩, b5⟩, b6⟩ := hb
  have heq := eq_two
  unfold vBlk
  go_enter Try.func13, Try.ntmps13
  go_wp2
  all_goals go_region
  all_goals go_wp2
  all_goals go_ret
  all_goals clear heq
  all_goals refine ⟨ret_bool ?_, ?_⟩
  all_goals (first | (simp_all [useB]; done) | first | exact (((Below.refl _ _).alloc (Nat.le_refl _) _).alloc (by simp) _).drew | exact ((Below.refl _ _).alloc (Nat.le_refl _) _).alloc (by simp) _ | exact (Below.refl _ _).alloc (Nat.le_refl _) _)
set_option maxRecDepth 100000 in
set_option maxHeartbeats 800000 in
theorem rblk_7 (b : GBlock) (hk : b.kind = 7) (hb : bndB b = true) (w : World) : Calls Try.prog 13 #[vBlk b] w fun e w' => e = .returned (.bool (useB b)) ∧ Below w.heap.size w w' := by
  obtain ⟨k, w0, w1, ran, going, frm, et, cv, q, p⟩ := b
  obtain rfl : k = 7 := hk
  simp only [bndB, Bool.and_eq_true, decide_eq_true_eq] at hb
  obtain ⟨⟨⟨⟨⟨b1, b2⟩, b3⟩, b4⟩, b5⟩, b6⟩ := hb
  have heq := eq_two
  unfold vBlk
  go_enter Try.func13, Try.ntmps13
  go_wp2
  all_goals go_ret
  all_goals clear heq
  all_goals refine ⟨ret_bool ?_, ?_⟩
  all_goals (first | (simp_all [useB]; done) | first | exact (((Below.refl _ _).alloc (Nat.le_refl _) _).alloc (by simp) _).drew | exact ((Below.refl _ _).alloc (Nat.le_refl _) _).alloc (by simp) _ | exact (Below.refl _ _).alloc (Nat.le_refl _) _)
set_option maxRecDepth 100000 in
set_option maxHeartbeats 800000 in
theorem rblk_8 (b : GBlock) (hk : b.kind = 8) (hb : bndB b = true) (w : World) : Calls Try.prog 13 #[vBlk b] w fun e w' => e = .returned (.bool (useB b)) ∧ Below w.heap.size w w' := by
  obtain ⟨k, w0, w1, ran, going, frm, et, cv, q, p⟩ := b
  obtain rfl : k = 8 := hk
  simp only [bndB, Bool.and_eq_true, decide_eq_true_eq] at hb
  obtain ⟨⟨⟨⟨⟨b1, b2⟩, b3⟩, b4⟩, b5⟩, b6⟩ := hb
  have heq := eq_two
  unfold vBlk
  go_enter Try.func13, Try.ntmps13
  go_wp2
  all_goals go_ret
  all_goals clear heq
  all_goals refine ⟨ret_bool ?_, ?_⟩
  all_goals (first | (simp_all [useB]; done) | first | exact (((Below.refl _ _).alloc (Nat.le_refl _) _).alloc (by simp) _).drew | exact ((Below.refl _ _).alloc (Nat.le_refl _) _).alloc (by simp) _ | exact (Below.refl _ _).alloc (Nat.le_refl _) _)
set_option maxRecDepth 100000 in
set_option maxHeartbeats 800000 in
theorem rblk_9 (b : GBlock) (hk : b.kind = 9) (hb : bndB b = true) (w : World) : Calls Try.prog 13 #[vBlk b] w fun e w' => e = .returned (.bool (useB b)) ∧ Below w.heap.size w w' := by
  obtain ⟨k, w0, w1, ran, going, frm, et, cv, q, p⟩ := b
  obtain rfl : k = 9 := hk
  simp only [bndB, Bool.and_eq_true, decide_eq_true_eq] at hb
  obtain ⟨⟨⟨⟨⟨b1, b2⟩, b3⟩, b4⟩, b5⟩, b6⟩ := hb
  have heq := eq_two
  unfold vBlk
  go_enter Try.func13, Try.ntmps13
  go_wp2
  all_goals go_ret
  all_goals clear heq
  all_goals refine ⟨ret_bool ?_, ?_⟩
  all_goals (first | (simp_all [useB]; done) | first | exact (((Below.refl _ _).alloc (Nat.le_refl _) _).alloc (by simp) _).drew | exact ((Below.refl _ _).alloc (Nat.le_refl _) _).alloc (by simp) _ | exact (Below.refl _ _).alloc (Nat.le_refl _) _)
set_option maxRecDepth 100000 in
set_option maxHeartbeats 800000 in
theorem rblk_10 (b : GBlock) (hk : b.kind = 10) (hb : bndB b = true) (w : World) : Calls Try.prog 13 #[vBlk b] w fun e w' => e = .returned (.bool (useB b)) ∧ Below w.heap.size w w' := by
  obtain ⟨k, w0, w1, ran, going, frm, et, cv, q, p⟩ := b
  obtain rfl : k = 10 := hk
  simp only [bndB, Bool.and_eq_true, decide_eq_true_eq] at hb
  obtain ⟨⟨⟨⟨⟨b1, b2⟩, b3⟩, b4⟩, b5⟩, b6⟩ := hb
  have heq := eq_two
  unfold vBlk
  go_enter Try.func13, Try.ntmps13
  go_wp2
  all_goals go_ret
  all_goals clear heq
  all_goals refine ⟨ret_bool ?_, ?_⟩
  all_goals (first | (simp_all [useB]; done) | first | exact (((Below.refl _ _).alloc (Nat.le_refl _) _).alloc (by simp) _).drew | exact ((Below.refl _ _).alloc (Nat.le_refl _) _).alloc (by simp) _ | exact (Below.refl _ _).alloc (Nat.le_refl _) _)
set_option maxRecDepth 100000 in
set_option maxHeartbeats 800000 in
theorem rblk_11 (b : GBlock) (hk : b.kind = 11) (hb : bndB b = true) (w : World) : Calls Try.prog 13 #[vBlk b] w fun e w' => e = .returned (.bool (useB b)) ∧ Below w.heap.size w w' := by
  obtain ⟨k, w0, w1, ran, going, frm, et, cv, q, p⟩ := b
  obtain rfl : k = 11 := hk
  simp only [bndB, Bool.and_eq_true, decide_eq_true_eq] at hb
  obtain ⟨⟨⟨⟨⟨b1, b2⟩, b3⟩, b4⟩, b5⟩, b6⟩ := hb
  have heq := eq_two
  unfold vBlk
  go_enter Try.func13, Try.ntmps13
  go_wp2
  all_goals go_region
  all_goals go_wp2
  all_goals go_ret
  all_goals clear heq
  all_goals refine ⟨ret_bool ?_, ?_⟩
  all_goals (first | (simp_all [useB]; done) | first | exact (((Below.refl _ _).alloc (Nat.le_refl _) _).alloc (by simp) _).drew | exact ((Below.refl _ _).alloc (Nat.le_refl _) _).alloc (by simp) _ | exact (Below.refl _ _).alloc (Nat.le_refl _) _)
end Go.Proofs.Ytjanofopmmndoaa
