/- blockhouseref15.Right, kinds 7 to 11; else. -/
import Derived.Test.YtjanofopmmndoaaRBlkM
import Derived.Test.YtjanofopmmndoaaBaseM
import Derived.RegionTactic
namespace Go.Proofs.Ytjanofopmmndoaa
open Go.RowKit
set_option maxRecDepth 100000 in
set_option maxHeartbeats 800000 in
theorem refr_7 (b : GBlock) (hk : b.kind = 7) (hb : bndB b = true) (w : World) : Calls Try.prog 14 #[vBlk b] w fun e w' => e = .returned (.bool (useB b)) ∧ Below w.heap.size w w' := by
  obtain ⟨k, w0, w1, ran, going, frm, et, cv, q, p⟩ := b
  obtain rfl : k = 7 := hk
  simp only [bndB, Bool.and_eq_true, decide_eq_true_eq] at hb
  obtain ⟨⟨⟨⟨⟨b1, b2⟩, b3⟩, b4⟩, b5⟩, b6⟩ := hb
  have heq := eq_two
  unfold vBlk
  go_enter Try.func14, Try.ntmps14
  go_wp2
  all_goals go_ret
  all_goals clear heq
  all_goals refine ⟨ret_bool ?_, ?_⟩
  all_goals (first | (simp_all [useB]; done) | first | exact (((Below.refl _ _).alloc (Nat.le_refl _) _).alloc (by simp) _).drew | exact ((Below.refl _ _).alloc (Nat.le_refl _) _).alloc (by simp) _ | exact (Below.refl _ _).alloc (Nat.le_refl _) _)
set_option maxRecDepth 100000 in
set_option maxHeartbeats 800000 in
theorem refr_8 (b : GBlock) (hk : b.kind = 8) (hb : bndB b = true) (w : World) : Calls Try.prog 14 #[vBlk b] w fun e w' => e = .returned (.bool (useB b)) ∧ Below w.heap.size w w' := by
  obtain ⟨k, w0, w1, ran, going, frm, et, cv, q, p⟩ := b
  obtain rfl : k = 8 := hk
  simp only [bndB, Bool.and_eq_true, decide_eq_true_eq] at hb
  obtain ⟨⟨⟨⟨⟨b1, b2⟩, b3⟩, b4⟩, b5⟩, b6⟩ := hb
  have heq := eq_two
  unfold vBlk
  go_enter Try.func14, Try.ntmps14
  go_wp2
  all_goals go_ret
  all_goals clear heq
  all_goals refine ⟨ret_bool ?_, ?_⟩
  all_goals (first | (simp_all [useB]; done) | first | exact (((Below.refl _ _).alloc (Nat.le_refl _) _).alloc (by simp) _).drew | exact ((Below.refl _ _).alloc (Nat.le_refl _) _).alloc (by simp) _ | exact (Below.refl _ _).alloc (Nat.le_refl _) _)
set_option maxRecDepth 100000 in
set_option maxHeartbeats 800000 in
theorem refr_9 (b : GBlock) (hk : b.kind = 9) (hb : bndB b = true) (w : World) : Calls Try.prog 14 #[vBlk b] w fun e w' => e = .returned (.bool (useB b)) ∧ Below w.heap.size w w' := by
  obtain ⟨k, w0, w1, ran, going, frm, et, cv, q, p⟩ := b
  obtain rfl : k = 9 := hk
  simp only [bndB, Bool.and_eq_true, decide_eq_true_eq] at hb
  obtain ⟨⟨⟨⟨⟨b1, b2⟩, b3⟩, b4⟩, b5⟩, b6⟩ := hb
  have heq := eq_two
  unfold vBlk
  go_enter Try.func14, Try.ntmps14
  go_wp2
  all_goals go_ret
  all_goals clear heq
  all_goals refine ⟨ret_bool ?_, ?_⟩
  all_goals (first | (simp_all [useB]; done) | first | exact (((Below.refl _ _).alloc (Nat.le_refl _) _).alloc (by simp) _).drew | exact ((Below.refl _ _).alloc (Nat.le_refl _) _).alloc (by simp) _ | exact (Below.refl _ _).alloc (Nat.le_refl _) _)
set_option maxRecDepth 100000 in
set_option maxHeartbeats 800000 in
theorem refr_10 (b : GBlock) (hk : b.kind = 10) (hb : bndB b = true) (w : World) : Calls Try.prog 14 #[vBlk b] w fun e w' => e = .returned (.bool (useB b)) ∧ Below w.heap.size w w' := by
  obtain ⟨k, w0, w1, ran, going, frm, et, cv, q, p⟩ := b
  obtain rfl : k = 10 := hk
  simp only [bndB, Bool.and_eq_true, decide_eq_true_eq] at hb
  obtain ⟨⟨⟨⟨⟨b1, b2⟩, b3⟩, b4⟩, b5⟩, b6⟩ := hb
  have heq := eq_two
  unfold vBlk
  go_enter Try.func14, Try.ntmps14
  go_wp2
  all_goals go_ret
  all_goals clear heq
  all_goals refine ⟨ret_bool ?_, ?_⟩
  all_goals (first | (simp_all [useB]; done) | first | exact (((Below.refl _ _).alloc (Nat.le_refl _) _).alloc (by simp) _).drew | exact ((Below.refl _ _).alloc (Nat.le_refl _) _).alloc (by simp) _ | exact (Below.refl _ _).alloc (Nat.le_refl _) _)
set_option maxRecDepth 100000 in
set_option maxHeartbeats 800000 in
theorem refr_11 (b : GBlock) (hk : b.kind = 11) (hb : bndB b = true) (w : World) : Calls Try.prog 14 #[vBlk b] w fun e w' => e = .returned (.bool (useB b)) ∧ Below w.heap.size w w' := by
  obtain ⟨k, w0, w1, ran, going, frm, et, cv, q, p⟩ := b
  obtain rfl : k = 11 := hk
  simp only [bndB, Bool.and_eq_true, decide_eq_true_eq] at hb
  obtain ⟨⟨⟨⟨⟨b1, b2⟩, b3⟩, b4⟩, b5⟩, b6⟩ := hb
  have heq := eq_two
  unfold vBlk
  go_enter Try.func14, Try.ntmps14
  go_wp2
  all_goals go_ret
  all_goals clear heq
  all_goals refine ⟨ret_bool ?_, ?_⟩
  all_goals (first | (simp_all [useB]; done) | first | exact (((Below.refl _ _).alloc (Nat.le_refl _) _).alloc (by simp) _).drew | exact ((Below.refl _ _).alloc (Nat.le_refl _) _).alloc (by simp) _ | exact (Below.refl _ _).alloc (Nat.le_refl _) _)
set_option maxRecDepth 100000 in
set_option maxHeartbeats 800000 in
theorem refr_out (b : GBlock) (hk : bndB b = false) (w : World) : Calls Try.prog 14 #[vBlk b] w fun e w' => e = .returned (.bool false) ∧ Below w.heap.size w w' := by
  obtain ⟨k, w0, w1, ran, going, frm, et, cv, q, p⟩ := b
  have h : frm < 0 ∨ 1125899906842624 < frm ∨ et < 0 ∨ 1125899906842624 < et ∨ cv < -2147483648 ∨ 2147483647 < cv := by
    simp only [bndB, Bool.and_eq_false_iff, decide_eq_false_iff_not] at hk
    omega
  clear hk
  unfold vBlk
  rcases h with h | h | h | h | h | h
  all_goals
    go_enter Try.func14, Try.ntmps14
    go_wp2
    all_goals (go_ret; exact ⟨rfl, (Below.refl _ _).alloc (Nat.le_refl _) _⟩)
set_option maxRecDepth 100000 in
set_option maxHeartbeats 800000 in
theorem refr_odd (b : GBlock) (hk : b.kind < 1 ∨ 11 < b.kind) (hb : bndB b = true) (w : World) : Calls Try.prog 14 #[vBlk b] w fun e w' => e = .returned (.bool false) ∧ Below w.heap.size w w' := by
  obtain ⟨k, w0, w1, ran, going, frm, et, cv, q, p⟩ := b
  have hk : k < 1 ∨ 11 < k := hk
  simp only [bndB, Bool.and_eq_true, decide_eq_true_eq] at hb
  obtain ⟨⟨⟨⟨⟨b1, b2⟩, b3⟩, b4⟩, b5⟩, b6⟩ := hb
  have heq := eq_two
  unfold vBlk
  rcases hk with hk | hk
  all_goals
    go_enter Try.func14, Try.ntmps14
    go_wp2
    all_goals go_ret
    all_goals refine ⟨rfl, ?_⟩
    all_goals (first | exact (((Below.refl _ _).alloc (Nat.le_refl _) _).alloc (by simp) _).drew | exact ((Below.refl _ _).alloc (Nat.le_refl _) _).alloc (by simp) _ | exact (Below.refl _ _).alloc (Nat.le_refl _) _)
end Go.Proofs.Ytjanofopmmndoaa

