/- Two flags held against two. -/
import Derived.Test.YtiogpainajokkaaBlkM
import Derived.RegionTactic
import Derived.WalkKit
import Derived.ProofKit
namespace Go.Proofs.Ytiogpainajokkaa
open Go.RowKit
theorem eq_two (a b c d : Bool) (w : World) : (Op.equalIn 9999 60 (.agg #[.bool a, .bool b]) (.agg #[.bool c, .bool d])).run Try.prog w = .ok (a == c && b == d) w := by
  cases a <;> cases b <;> cases c <;> cases d <;> kernel_rfl
theorem useB_odd {b : GBlock} (h : b.kind < 1 ∨ 11 < b.kind) : useB b = false := by
  unfold useB
  rw [if_neg (by omega), if_neg (by omega), if_neg (by omega), if_neg (by omega), if_neg (by omega), if_neg (by omega)]
end Go.Proofs.Ytiogpainajokkaa

namespace Go.Proofs.Ytiogpainajokkaa
open Go.RowKit
set_option maxRecDepth 100000 in
set_option maxHeartbeats 800000 in
theorem rblk_1 (b : GBlock) (hk : b.kind = 1) (hb : bndB b = true) (w : World) : Calls Try.prog 77 #[vBlk b] w fun e w' => e = .returned (.bool (useB b)) ∧ Below w.heap.size w w' := by
  obtain ⟨k, w0, w1, ran, going, frm, et, cv, q, p⟩ := b
  obtain rfl : k = 1 := hk
  simp only [bndB, Bool.and_eq_true, decide_eq_true_eq] at hb
  obtain ⟨⟨⟨⟨⟨b1, b2⟩, b3⟩, b4⟩, b5⟩, b6⟩ := hb
  have heq := eq_two
  unfold vBlk
  go_enter Try.func77, Try.ntmps77
  go_wp2
  all_goals go_region
  all_goals go_wp2
  all_goals go_ret
  all_goals clear heq
  all_goals refine ⟨ret_bool ?_, ?_⟩
  all_goals (first | (simp_all [useB]; done) | first | exact (((Below.refl _ _).alloc (Nat.le_refl _) _).alloc (by simp) _).drew | exact ((Below.refl _ _).alloc (Nat.le_refl _) _).alloc (by simp) _ | exact (Below.refl _ _).alloc (Nat.le_refl _) _)
set_option maxRecDepth 100000 in
set_option maxHeartbeats 800000 in
theorem rblk_2 (b : GBlock) (hk : b.kind = 2) (hb : bndB b = true) (w : World) : Calls Try.prog 77 #[vBlk b] w fun e w' => e = .returned (.bool (useB b)) ∧ Below w.heap.size w w' := by
  obtain ⟨k, w0, w1, ran, going, frm, et, cv, q, p⟩ := b
  obtain rfl : k = 2 := hk
  simp only [bndB, Bool.and_eq_true, decide_eq_true_eq] at hb
  obtain ⟨⟨⟨⟨⟨b1, b2⟩, b3⟩, b4⟩, b5⟩, b6⟩ := hb
  have heq := eq_two
  unfold vBlk
  go_enter Try.func77, Try.ntmps77
  go_wp2
  all_goals go_region
  all_goals go_wp2
  all_goals go_ret
  all_goals clear heq
  all_goals refine ⟨ret_bool ?_, ?_⟩
  all_goals (first | (simp_all [useB]; done) | first | exact (((Below.refl _ _).alloc (Nat.le_refl _) _).alloc (by simp) _).drew | exact ((Below.refl _ _).alloc (Nat.le_refl _) _).alloc (by simp) _ | exact (Below.refl _ _).alloc (Nat.le_refl _) _)
set_option maxRecDepth 100000 in
set_option maxHeartbeats 800000 in
theorem rblk_3 (b : GBlock) (hk : b.kind = 3) (hb : bndB b = true) (w : World) : Calls Try.prog 77 #[vBlk b] w fun e w' => e = .returned (.bool (useB b)) ∧ Below w.heap.size w w' := by
  obtain ⟨k, w0, w1, ran, going, frm, et, cv, q, p⟩ := b
  obtain rfl : k = 3 := hk
  simp only [bndB, Bool.and_eq_true, decide_eq_true_eq] at hb
  obtain ⟨⟨⟨⟨⟨b1, b2⟩, b3⟩, b4⟩, b5⟩, b6⟩ := hb
  have heq := eq_two
  unfold vBlk
  go_enter Try.func77, Try.ntmps77
  go_wp2
  all_goals go_region
  all_goals go_wp2
  all_goals go_ret
  all_goals clear heq
  all_goals refine ⟨ret_bool ?_, ?_⟩
  all_goals (first | (simp_all [useB]; done) | first | exact (((Below.refl _ _).alloc (Nat.le_refl _) _).alloc (by simp) _).drew | exact ((Below.refl _ _).alloc (Nat.le_refl _) _).alloc (by simp) _ | exact (Below.refl _ _).alloc (Nat.le_refl _) _)
set_option maxRecDepth 100000 in
set_option maxHeartbeats 800000 in
theorem rblk_4 (b : GBlock) (hk : b.kind = 4) (hb : bndB b = true) (w : World) : Calls Try.prog 77 #[vBlk b] w fun e w' => e = .returned (.bool (useB b)) ∧ Below w.heap.size w w' := by
  obtain ⟨k, w0, w1, ran, going, frm, et, cv, q, p⟩ := b
  obtain rfl : k = 4 := hk
  simp only [bndB, Bool.and_eq_true, decide_eq_true_eq] at hb
  obtain ⟨⟨⟨⟨⟨b1, b2⟩, b3⟩, b4⟩, b5⟩, b6⟩ := hb
  have heq := eq_two
  unfold vBlk
  go_enter Try.func77, Try.ntmps77
  go_wp2
  all_goals go_region
  all_goals go_wp2
  all_goals go_ret
  all_goals clear heq
  all_goals refine ⟨ret_bool ?_, ?_⟩
  all_goals (first | (simp_all [useB]; done) | first | exact (((Below.refl _ _).alloc (Nat.le_refl _) _).alloc (by simp) _).drew | exact ((Below.refl _ _).alloc (Nat.le_refl _) _).alloc (by simp) _ | exact (Below.refl _ _).alloc (Nat.le_refl _) _)
set_option maxRecDepth 100000 in
set_option maxHeartbeats 800000 in
theorem rblk_5 (b : GBlock) (hk : b.kind = 5) (hb : bndB b = true) (w : World) : Calls Try.prog 77 #[vBlk b] w fun e w' => e = .returned (.bool (useB b)) ∧ Below w.heap.size w w' := by
  obtain ⟨k, w0, w1, ran, going, frm, et, cv, q, p⟩ := b
  obtain rfl : k = 5 := hk
  simp only [bndB, Bool.and_eq_true, decide_eq_true_eq] at hb
  obtain ⟨⟨⟨⟨⟨b1, b2⟩, b3⟩, b4⟩, b5⟩, b6⟩ := hb
  have heq := eq_two
  unfold vBlk
  go_enter Try.func77, Try.ntmps77
  go_wp2
  all_goals go_region
  all_goals go_wp2
  all_goals go_ret
  all_goals clear heq
  all_goals refine ⟨ret_bool ?_, ?_⟩
  all_goals (first | (simp_all [useB]; done) | first | exact (((Below.refl _ _).alloc (Nat.le_refl _) _).alloc (by simp) _).drew | exact ((Below.refl _ _).alloc (Nat.le_refl _) _).alloc (by simp) _ | exact (Below.refl _ _).alloc (Nat.le_refl _) _)
end Go.Proofs.Ytiogpainajokkaa

namespace Go.Proofs.Ytiogpainajokkaa
open Go.RowKit
set_option maxRecDepth 100000 in
set_option maxHeartbeats 800000 in
theorem rblk_6 (b : GBlock) (hk : b.kind = 6) (hb : bndB b = true) (w : World) : Calls Try.prog 77 #[vBlk b] w fun e w' => e = .returned (.bool (useB b)) ∧ Below w.heap.size w w' := by
  obtain ⟨k, w0, w1, ran, going, frm, et, cv, q, p⟩ := b
  obtain rfl : k = 6 := hk
  simp only [bndB, Bool.and_eq_true, decide_eq_true_eq] at hb
  obtain ⟨⟨⟨⟨⟨b1, b2⟩, b3⟩, b4⟩, b5⟩, b6⟩ := hb
  have heq := eq_two
  unfold vBlk
  go_enter Try.func77, Try.ntmps77
  go_wp2
  all_goals go_region
  all_goals go_wp2
  all_goals go_ret
  all_goals clear heq
  all_goals refine ⟨ret_bool ?_, ?_⟩
  all_goals (first | (simp_all [useB]; done) | first | exact (((Below.refl _ _).alloc (Nat.le_refl _) _).alloc (by simp) _).drew | exact ((Below.refl _ _).alloc (Nat.le_refl _) _).alloc (by simp) _ | exact (Below.refl _ _).alloc (Nat.le_refl _) _)
set_option maxRecDepth 100000 in
set_option maxHeartbeats 800000 in
theorem rblk_7 (b : GBlock) (hk : b.kind = 7) (hb : bndB b = true) (w : World) : Calls Try.prog 77 #[vBlk b] w fun e w' => e = .returned (.bool (useB b)) ∧ Below w.heap.size w w' := by
  obtain ⟨k, w0, w1, ran, going, frm, et, cv, q, p⟩ := b
  obtain rfl : k = 7 := hk
  simp only [bndB, Bool.and_eq_true, decide_eq_true_eq] at hb
  obtain ⟨⟨⟨⟨⟨b1, b2⟩, b3⟩, b4⟩, b5⟩, b6⟩ := hb
  have heq := eq_two
  unfold vBlk
  go_enter Try.func77, Try.ntmps77
  go_wp2
  all_goals go_ret
  all_goals clear heq
  all_goals refine ⟨ret_bool ?_, ?_⟩
  all_goals (first | (simp_all [useB]; done) | first | exact (((Below.refl _ _).alloc (Nat.le_refl _) _).alloc (by simp) _).drew | exact ((Below.refl _ _).alloc (Nat.le_refl _) _).alloc (by simp) _ | exact (Below.refl _ _).alloc (Nat.le_refl _) _)
set_option maxRecDepth 100000 in
set_option maxHeartbeats 800000 in
theorem rblk_8 (b : GBlock) (hk : b.kind = 8) (hb : bndB b = true) (w : World) : Calls Try.prog 77 #[vBlk b] w fun e w' => e = .returned (.bool (useB b)) ∧ Below w.heap.size w w' := by
  obtain ⟨k, w0, w1, ran, going, frm, et, cv, q, p⟩ := b
  obtain rfl : k = 8 := hk
  simp only [bndB, Bool.and_eq_true, decide_eq_true_eq] at hb
  obtain ⟨⟨⟨⟨⟨b1, b2⟩, b3⟩, b4⟩, b5⟩, b6⟩ := hb
  have heq := eq_two
  unfold vBlk
  go_enter Try.func77, Try.ntmps77
  go_wp2
  all_goals go_ret
  all_goals clear heq
  all_goals refine ⟨ret_bool ?_, ?_⟩
  all_goals (first | (simp_all [useB]; done) | first | exact (((Below.refl _ _).alloc (Nat.le_refl _) _).alloc (by simp) _).drew | exact ((Below.refl _ _).alloc (Nat.le_refl _) _).alloc (by simp) _ | exact (Below.refl _ _).alloc (Nat.le_refl _) _)
set_option maxRecDepth 100000 in
set_option maxHeartbeats 800000 in
theorem rblk_9 (b : GBlock) (hk : b.kind = 9) (hb : bndB b = true) (w : World) : Calls Try.prog 77 #[vBlk b] w fun e w' => e = .returned (.bool (useB b)) ∧ Below w.heap.size w w' := by
  obtain ⟨k, w0, w1, ran, going, frm, et, cv, q, p⟩ := b
  obtain rfl : k = 9 := hk
  simp only [bndB, Bool.and_eq_true, decide_eq_true_eq] at hb
  obtain ⟨⟨⟨⟨⟨b1, b2⟩, b3⟩, b4⟩, b5⟩, b6⟩ := hb
  have heq := eq_two
  unfold vBlk
  go_enter Try.func77, Try.ntmps77
  go_wp2
  all_goals go_ret
  all_goals clear heq
  all_goals refine ⟨ret_bool ?_, ?_⟩
  all_goals (first | (simp_all [useB]; done) | first | exact (((Below.refl _ _).alloc (Nat.le_refl _) _).alloc (by simp) _).drew | exact ((Below.refl _ _).alloc (Nat.le_refl _) _).alloc (by simp) _ | exact (Below.refl _ _).alloc (Nat.le_refl _) _)
set_option maxRecDepth 100000 in
set_option maxHeartbeats 800000 in
theorem rblk_10 (b : GBlock) (hk : b.kind = 10) (hb : bndB b = true) (w : World) : Calls Try.prog 77 #[vBlk b] w fun e w' => e = .returned (.bool (useB b)) ∧ Below w.heap.size w w' := by
  obtain ⟨k, w0, w1, ran, going, frm, et, cv, q, p⟩ := b
  obtain rfl : k = 10 := hk
  simp only [bndB, Bool.and_eq_true, decide_eq_true_eq] at hb
  obtain ⟨⟨⟨⟨⟨b1, b2⟩, b3⟩, b4⟩, b5⟩, b6⟩ := hb
  have heq := eq_two
  unfold vBlk
  go_enter Try.func77, Try.ntmps77
  go_wp2
  all_goals go_ret
  all_goals clear heq
  all_goals refine ⟨ret_bool ?_, ?_⟩
  all_goals (first | (simp_all [useB]; done) | first | exact (((Below.refl _ _).alloc (Nat.le_refl _) _).alloc (by simp) _).drew | exact ((Below.refl _ _).alloc (Nat.le_refl _) _).alloc (by simp) _ | exact (Below.refl _ _).alloc (Nat.le_refl _) _)
set_option maxRecDepth 100000 in
set_option maxHeartbeats 800000 in
theorem rblk_11 (b : GBlock) (hk : b.kind = 11) (hb : bndB b = true) (w : World) : Calls Try.prog 77 #[vBlk b] w fun e w' => e = .returned (.bool (useB b)) ∧ Below w.heap.size w w' := by
  obtain ⟨k, w0, w1, ran, going, frm, et, cv, q, p⟩ := b
  obtain rfl : k = 11 := hk
  simp only [bndB, Bool.and_eq_true, decide_eq_true_eq] at hb
  obtain ⟨⟨⟨⟨⟨b1, b2⟩, b3⟩, b4⟩, b5⟩, b6⟩ := hb
  have heq := eq_two
  unfold vBlk
  go_enter Try.func77, Try.ntmps77
  go_wp2
  all_goals go_region
  all_goals go_wp2
  all_goals go_ret
  all_goals clear heq
  all_goals refine ⟨ret_bool ?_, ?_⟩
  all_goals (first | (simp_all [useB]; done) | first | exact (((Below.refl _ _).alloc (Nat.le_refl _) _).alloc (by simp) _).drew | exact ((Below.refl _ _).alloc (Nat.le_refl _) _).alloc (by simp) _ | exact (Below.refl _ _).alloc (Nat.le_refl _) _)
end Go.Proofs.Ytiogpainajokkaa

namespace Go.Proofs.Ytiogpainajokkaa
open Go.RowKit
set_option maxRecDepth 100000 in
set_option maxHeartbeats 800000 in
theorem rblk_out (b : GBlock) (hk : bndB b = false) (w : World) : Calls Try.prog 77 #[vBlk b] w fun e w' => e = .returned (.bool false) ∧ Below w.heap.size w w' := by
  obtain ⟨k, w0, w1, ran, going, frm, et, cv, q, p⟩ := b
  have h : frm < 0 ∨ 1125899906842624 < frm ∨ et < 0 ∨ 1125899906842624 < et ∨ cv < -2147483648 ∨ 2147483647 < cv := by
    simp only [bndB, Bool.and_eq_false_iff, decide_eq_false_iff_not] at hk
    omega
  clear hk
  unfold vBlk
  rcases h with h | h | h | h | h | h
  all_goals
    go_enter Try.func77, Try.ntmps77
    go_wp2
    all_goals (go_ret; exact ⟨rfl, (Below.refl _ _).alloc (Nat.le_refl _) _⟩)
set_option maxRecDepth 100000 in
set_option maxHeartbeats 800000 in
theorem rblk_odd (b : GBlock) (hk : b.kind < 1 ∨ 11 < b.kind) (hb : bndB b = true) (w : World) : Calls Try.prog 77 #[vBlk b] w fun e w' => e = .returned (.bool false) ∧ Below w.heap.size w w' := by
  obtain ⟨k, w0, w1, ran, going, frm, et, cv, q, p⟩ := b
  have hk : k < 1 ∨ 11 < k := hk
  simp only [bndB, Bool.and_eq_true, decide_eq_true_eq] at hb
  obtain ⟨⟨⟨⟨⟨b1, b2⟩, b3⟩, b4⟩, b5⟩, b6⟩ := hb
  have heq := eq_two
  unfold vBlk
  rcases hk with hk | hk
  all_goals
    go_enter Try.func77, Try.ntmps77
    go_wp2
    all_goals go_ret
    all_goals refine ⟨rfl, ?_⟩
    all_goals (first | exact (((Below.refl _ _).alloc (Nat.le_refl _) _).alloc (by simp) _).drew | exact ((Below.refl _ _).alloc (Nat.le_refl _) _).alloc (by simp) _ | exact (Below.refl _ _).alloc (Nat.le_refl _) _)
end Go.Proofs.Ytiogpainajokkaa

namespace Go.Proofs.Ytiogpainajokkaa
open Go.RowKit
theorem rblk_any (b : GBlock) (w : World) : Calls Try.prog 77 #[vBlk b] w fun e w' => e = .returned (.bool (rightBlk b)) ∧ Below w.heap.size w w' := by
  cases hb : bndB b with
  | false =>
    have h : rightBlk b = false := by simp [rightBlk, hb]
    rw [h]; exact rblk_out b hb w
  | true =>
    have h : rightBlk b = useB b := by simp [rightBlk, hb]
    rw [h]
    by_cases hk : b.kind < 1 ∨ 11 < b.kind
    · rw [useB_odd hk]; exact rblk_odd b hk hb w
    · rcases (by omega : b.kind = 1 ∨ b.kind = 2 ∨ b.kind = 3 ∨ b.kind = 4 ∨ b.kind = 5 ∨ b.kind = 6 ∨ b.kind = 7 ∨ b.kind = 8 ∨ b.kind = 9 ∨ b.kind = 10 ∨ b.kind = 11) with hk | hk | hk | hk | hk | hk | hk | hk | hk | hk | hk
      · exact rblk_1 b hk hb w
      · exact rblk_2 b hk hb w
      · exact rblk_3 b hk hb w
      · exact rblk_4 b hk hb w
      · exact rblk_5 b hk hb w
      · exact rblk_6 b hk hb w
      · exact rblk_7 b hk hb w
      · exact rblk_8 b hk hb w
      · exact rblk_9 b hk hb w
      · exact rblk_10 b hk hb w
      · exact rblk_11 b hk hb w
end Go.Proofs.Ytiogpainajokkaa

namespace Go.Proofs.Ytiogpainajokkaa
open Go.RowKit
def inR (t x : Int) : Bool := decide ((rangeOf t).1 ≤ x) && decide (x ≤ (rangeOf t).2)
def okIns : List Int → List Int → Bool
  | [], [] => true
  | t :: ts, x :: xs => inR t x && okIns ts xs
  | _, _ => false
theorem okIns_len : ∀ {ts xs : List Int}, okIns ts xs = true → ts.length = xs.length
  | [], [], _ => rfl
  | t :: ts, x :: xs, h => by
    simp only [okIns, Bool.and_eq_true] at h
    simp [okIns_len h.2]
  | [], _ :: _, h => by cases h
  | _ :: _, [], h => by cases h
theorem okIns_step {ts xs : List Int} (k : Nat) (h1 : k < ts.length) (h2 : k < xs.length) : okIns (ts.drop k) (xs.drop k) = (inR ts[k] xs[k] && okIns (ts.drop (k + 1)) (xs.drop (k + 1))) := by
  rw [List.drop_eq_getElem_cons h1, List.drop_eq_getElem_cons h2]
  rfl
def mayB (b : GBlock) (ins : List Int) (now : Int) : Int := if rightBlk b = true then (if (decide (0 ≤ now) && decide (now ≤ 1125899906842624) && okIns (pinsIn b.kind) ins) = true then 0 else 2) else 160
theorem pinsIn_len (k : Int) : (pinsIn k).length ≤ 5 := by
  unfold pinsIn pinStr
  repeat' split
  all_goals decide
set_option maxRecDepth 100000 in
set_option maxHeartbeats 1000000 in
theorem may_any (b : GBlock) (ins : List Int) (vs : Value) (now : Int) (w : World) (hr : Rd oneI64 1 w vs ins) : Calls Try.prog 156 #[vBlk b, vs, .int .i64 now] w fun e w' => e = .returned (.int .i64 (mayB b ins now)) ∧ Below w.heap.size w w' := by
  have hrr : ∀ w, Calls Try.prog 77 #[.agg #[.int .u8 b.kind, .bool b.w0, .bool b.w1, .bool b.ran, .bool b.going, .int .i64 b.frm, .int .i64 b.et, .int .i64 b.cv, .bool b.q, .bool b.p]] w fun e w' => e = .returned (.bool (rightBlk b)) ∧ Below w.heap.size w w' := rblk_any b
  obtain ⟨kind, w0, w1', ran, going, frm, et, cv, q, p⟩ := b
  obtain ⟨l0, A, c, rfl, lc, hn, hc⟩ := hr
  have HC := Fact.mk hc
  clear hc hn
  unfold vBlk
  go_enter Try.func156, Try.ntmps156
  go_wp2_with fail
  refine (hrr _).mono ?_
  rintro e w1 ⟨rfl, hb1⟩
  obtain ⟨h1, h2, h3⟩ := one_block w (Obj.cells #[.int .u8 kind, .bool w0, .bool w1', .bool ran, .bool going, .int .i64 frm, .int .i64 et, .int .i64 cv, .bool q, .bool p] 67)
  have hh := hb1.block w.heap.size (by rw [h3]; omega)
  rw [h2] at hh
  obtain ⟨c0, -, -, -, -, -, -, -, -, -, -, -, -, -, -, -, -, -, -, -⟩ := row10 hh
  have B1 := Fact.mk (h1.trans (hb1.mono h1.size))
  clear h1 h2 h3 hh hb1 hrr
  cases hR : rightBlk ⟨kind, w0, w1', ran, going, frm, et, cv, q, p⟩ with
  | false =>
    go_wp2_with fail
    go_ret
    exact ⟨ret_int (by simp [mayB, hR]), B1.out⟩
  | true =>
    have HR := Fact.mk hR
    clear hR
    go_wp2_with fail
    refine (pins_any _ _).mono ?_
    rintro e w2 ⟨v1, v2, rfl, ho1, ho2, hb2⟩
    have B2 := Fact.mk (B1.out.trans (hb2.mono B1.out.size))
    obtain ⟨lp, Ap, cp, rfl, lpc, hpn, hpc⟩ := ho1.rd oneU8_len
    have HP := Fact.mk hpc
    have hl5 := pinsIn_len kind
    clear ho1 ho2 hb2 hpc hpn c0
    by_cases hl : ins.length = (pinsIn kind).length
    · by_cases hnow : 0 ≤ now ∧ now ≤ 1125899906842624
      · obtain ⟨hn1, hn2⟩ := hnow
        go_wp2_with fail
        go_loop [37] (fun i => ∃ k : Nat, k ≤ (pinsIn kind).length ∧ i = .int .i64 k ∧ Fact (okIns ((pinsIn kind).drop k) (ins.drop k) = okIns (pinsIn kind) ins)) (fun i => (pinsIn kind).length - (intOf i).toNat)
        case atStart => exact ⟨0, Nat.zero_le _, rfl, ⟨rfl⟩⟩
        case round =>
          obtain ⟨k, hk, rfl, hok⟩ := hrel
          by_cases hlt : k < (pinsIn kind).length
          · obtain ⟨bp, op, rfl, qp⟩ := HP.out (by omega)
            obtain ⟨bi, oi, rfl, qi⟩ := HC.out (by omega)
            have hlt2 : k < ins.length := by omega
            have p1 : w2.cell? ⟨bp, op + k, none⟩ = some (.int .u8 (pinsIn kind)[k]) := by
              have := qp k hlt 0 _ rfl
              rwa [show op + k * 1 + 0 = op + k from by omega] at this
            have p2 : w2.cell? ⟨bi, oi + k, none⟩ = some (.int .i64 ins[k]) := by
              have := cell_below B2.out _ _ (qi k hlt2 0 _ rfl)
              rwa [show oi + k * 1 + 0 = oi + k from by omega] at this
            have hst := okIns_step k hlt hlt2
            obtain ⟨t, ht⟩ : ∃ t, (pinsIn kind)[k] = t := ⟨_, rfl⟩
            obtain ⟨x, hx⟩ : ∃ x, ins[k] = x := ⟨_, rfl⟩
            rw [ht] at p1 hst
            rw [hx] at p2 hst
            have HS := Fact.mk hst
            have i1 : (k : Int) < ((pinsIn kind).length : Int) := by omega
            have i2 : (k : Int) < (ins.length : Int) := by omega
            clear qp qi hst ht hx
            obtain ⟨lo, hlo⟩ : ∃ lo, (rangeOf t).1 = lo := ⟨_, rfl⟩
            obtain ⟨hi, hhi⟩ : ∃ hi, (rangeOf t).2 = hi := ⟨_, rfl⟩
            have hrg := range_any t w2
            rw [hlo, hhi] at hrg
            have HIN : Fact (inR t x = (decide (lo ≤ x) && decide (x ≤ hi))) := ⟨by rw [← hlo, ← hhi]; rfl⟩
            clear hlo hhi
            by_cases hx1 : x < lo
            · go_wp2_with (go_at_call 90; refine hrg.mono ?_; rintro e w' ⟨rfl, rfl⟩)
              go_ret
              refine ⟨ret_int ?_, B2.out⟩
              have hf : okIns (pinsIn kind) ins = false := by
                rw [← hok.out, HS.out, HIN.out, decide_eq_false (by omega)]; rfl
              simp [mayB, HR.out, hf]
            · by_cases hx2 : hi < x
              · go_wp2_with (go_at_call 90; refine hrg.mono ?_; rintro e w' ⟨rfl, rfl⟩)
                go_ret
                refine ⟨ret_int ?_, B2.out⟩
                have hf : okIns (pinsIn kind) ins = false := by
                  rw [← hok.out, HS.out, HIN.out, decide_eq_false (p := x ≤ hi) (by omega)]; simp
                simp [mayB, HR.out, hf]
              · go_wp2_with (go_at_call 90; refine hrg.mono ?_; rintro e w' ⟨rfl, rfl⟩)
                go_round
                case rel =>
                  refine ⟨k + 1, by omega, by go_num, ⟨?_⟩⟩
                  rw [← hok.out, HS.out, HIN.out, decide_eq_true (p := x ≤ hi) (by omega), decide_eq_true (p := lo ≤ x) (by omega)]; rfl
                case measure => simp [intOf]; omega
          · obtain rfl : k = (pinsIn kind).length := by omega
            go_wp2_with fail
            go_ret
            refine ⟨ret_int ?_, B2.out⟩
            have hf := hok.out
            rw [List.drop_length, List.drop_of_length_le (by omega)] at hf
            simp [mayB, HR.out, ← hf, hn1, hn2, okIns]
      · rcases (by omega : now < 0 ∨ 1125899906842624 < now) with hn | hn
        all_goals
          go_wp2_with fail
          go_ret
          refine ⟨ret_int ?_, B2.out⟩
          have hf : (decide (0 ≤ now) && decide (now ≤ 1125899906842624)) = false := by simp; omega
          simp [mayB, HR.out, hf]
    · have hl' : ¬ (ins.length : Int) = ((pinsIn kind).length : Int) := by omega
      go_wp2_with fail
      go_ret
      refine ⟨ret_int ?_, B2.out⟩
      have hf : okIns (pinsIn kind) ins = false := by
        cases h : okIns (pinsIn kind) ins with
        | false => rfl
        | true => exact absurd (okIns_len h).symm hl
      simp [mayB, HR.out, hf]
end Go.Proofs.Ytiogpainajokkaa

namespace Go.Proofs.Ytiogpainajokkaa
open Go.RowKit
set_option maxRecDepth 100000 in
theorem eq_blk (b : GBlock) (w : World) : (Op.equalIn 10000 67 (.agg #[.int .u8 b.kind, .bool b.w0, .bool b.w1, .bool b.ran, .bool b.going, .int .i64 b.frm, .int .i64 b.et, .int .i64 b.cv, .bool b.q, .bool b.p]) (.agg #[.int .u8 b.kind, .bool b.w0, .bool b.w1, .bool b.ran, .bool b.going, .int .i64 b.frm, .int .i64 b.et, .int .i64 b.cv, .bool b.q, .bool b.p])).run Try.prog w = .ok true w := by
  have e2 := eq_two b.w0 b.w1 b.w0 b.w1 w
  go_simp
end Go.Proofs.Ytiogpainajokkaa

