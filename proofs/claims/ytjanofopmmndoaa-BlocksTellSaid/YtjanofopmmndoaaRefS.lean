/- The reference's small functions of layer 15: types of pins, ranges, how long a time goes on, one more and one less, where a point is. -/
import Derived.Test.YtjanofopmmndoaaStep
import Derived.Test.YtjanofopmmndoaaLrun
import Derived.RegionTactic
namespace Go.Proofs.Ytjanofopmmndoaa
open Go.RowKit
theorem rrange_any (t : Int) (w : World) : Calls Try.prog 34 #[.int .u8 t] w fun e w' => e = .returned (.tuple #[.int .i64 (rangeOf t).1, .int .i64 (rangeOf t).2]) ∧ w = w' := by
  unfold rangeOf
  go_enter Try.func34, Try.ntmps34
  go_wp2
  all_goals go_ret2
  all_goals (refine ⟨?_, rfl⟩; simp_all)
theorem own_lit (xs : List Int) (w0 W : World) (h : w0.heap.size ≤ W.heap.size) (hl : xs.length ≤ 100) (T : TypeId) : Own T 1 oneU8 (W.alloc (.cells (xs.flatMap oneU8).toArray T)) w0.heap.size (.slice (some ⟨W.heap.size, 0, none⟩) xs.length xs.length) xs := by
  have hf : (xs.flatMap oneU8).length = xs.length := by rw [flatMap_len oneU8_len]; omega
  have e : xs.length * 1 = (xs.flatMap oneU8).length := by rw [hf]; omega
  exact ⟨by rw [hf]; omega, .inr ⟨W.heap.size, xs.length, _, rfl, h, heap_alloc_new W _, Nat.le_refl _, by simp only [maxLen]; omega, by simp [hf], by show List.take _ (xs.flatMap oneU8) = _; rw [e, List.take_length]⟩⟩
theorem own_lit2 (xs : List Int) (w : World) (o : Obj) (hl : xs.length ≤ 100) (T : TypeId) : Own T 1 oneU8 ((w.alloc o).alloc (.cells (xs.flatMap oneU8).toArray T)) w.heap.size (.slice (some ⟨w.heap.size + 1, 0, none⟩) xs.length xs.length) xs := by
  have h := own_lit xs w (w.alloc o) (by simp) hl T
  rwa [World.size_alloc] at h
set_option maxRecDepth 100000 in
set_option maxHeartbeats 1000000 in
theorem rpins_any (k : Int) (hk : 1 ≤ k) (hk' : k ≤ 11) (w : World) : Calls Try.prog 33 #[.int .u8 k] w (PinsPost k w) := by
  rcases (by omega : k = 1 ∨ k = 2 ∨ k = 3 ∨ k = 4 ∨ k = 5 ∨ k = 6 ∨ k = 7 ∨ k = 8 ∨ k = 9 ∨ k = 10 ∨ k = 11) with rfl | rfl | rfl | rfl | rfl | rfl | rfl | rfl | rfl | rfl | rfl
  · go_enter Try.func33, Try.ntmps33
    go_wp2
    go_ret2
    exact ⟨_, _, rfl, (own_lit (pinsIn 1) w w (Nat.le_refl _) (by decide) _).below ((Below.refl _ _).alloc (Nat.le_refl _) _), own_lit2 (pinsOut 1) w _ (by decide) _, ((Below.refl _ _).alloc (Nat.le_refl _) _).alloc (by simp) _⟩
  · go_enter Try.func33, Try.ntmps33
    go_wp2
    go_ret2
    exact ⟨_, _, rfl, (own_lit (pinsIn 2) w w (Nat.le_refl _) (by decide) _).below ((Below.refl _ _).alloc (Nat.le_refl _) _), own_lit2 (pinsOut 2) w _ (by decide) _, ((Below.refl _ _).alloc (Nat.le_refl _) _).alloc (by simp) _⟩
  · go_enter Try.func33, Try.ntmps33
    go_wp2
    go_ret2
    exact ⟨_, _, rfl, (own_lit (pinsIn 3) w w (Nat.le_refl _) (by decide) _).below ((Below.refl _ _).alloc (Nat.le_refl _) _), own_lit2 (pinsOut 3) w _ (by decide) _, ((Below.refl _ _).alloc (Nat.le_refl _) _).alloc (by simp) _⟩
  · go_enter Try.func33, Try.ntmps33
    go_wp2
    go_ret2
    exact ⟨_, _, rfl, (own_lit (pinsIn 4) w w (Nat.le_refl _) (by decide) _).below ((Below.refl _ _).alloc (Nat.le_refl _) _), own_lit2 (pinsOut 4) w _ (by decide) _, ((Below.refl _ _).alloc (Nat.le_refl _) _).alloc (by simp) _⟩
  · go_enter Try.func33, Try.ntmps33
    go_wp2
    go_ret2
    exact ⟨_, _, rfl, (own_lit (pinsIn 5) w w (Nat.le_refl _) (by decide) _).below ((Below.refl _ _).alloc (Nat.le_refl _) _), own_lit2 (pinsOut 5) w _ (by decide) _, ((Below.refl _ _).alloc (Nat.le_refl _) _).alloc (by simp) _⟩
  · go_enter Try.func33, Try.ntmps33
    go_wp2
    go_ret2
    exact ⟨_, _, rfl, (own_lit (pinsIn 6) w w (Nat.le_refl _) (by decide) _).below ((Below.refl _ _).alloc (Nat.le_refl _) _), own_lit2 (pinsOut 6) w _ (by decide) _, ((Below.refl _ _).alloc (Nat.le_refl _) _).alloc (by simp) _⟩
  · go_enter Try.func33, Try.ntmps33
    go_wp2
    go_ret2
    exact ⟨_, _, rfl, (own_lit (pinsIn 7) w w (Nat.le_refl _) (by decide) _).below ((Below.refl _ _).alloc (Nat.le_refl _) _), own_lit2 (pinsOut 7) w _ (by decide) _, ((Below.refl _ _).alloc (Nat.le_refl _) _).alloc (by simp) _⟩
  · go_enter Try.func33, Try.ntmps33
    go_wp2
    go_ret2
    exact ⟨_, _, rfl, (own_lit (pinsIn 8) w w (Nat.le_refl _) (by decide) _).below ((Below.refl _ _).alloc (Nat.le_refl _) _), own_lit2 (pinsOut 8) w _ (by decide) _, ((Below.refl _ _).alloc (Nat.le_refl _) _).alloc (by simp) _⟩
  · go_enter Try.func33, Try.ntmps33
    go_wp2
    go_ret2
    exact ⟨_, _, rfl, (own_lit (pinsIn 9) w w (Nat.le_refl _) (by decide) _).below ((Below.refl _ _).alloc (Nat.le_refl _) _), own_lit2 (pinsOut 9) w _ (by decide) _, ((Below.refl _ _).alloc (Nat.le_refl _) _).alloc (by simp) _⟩
  · go_enter Try.func33, Try.ntmps33
    go_wp2
    go_ret2
    exact ⟨_, _, rfl, (own_lit (pinsIn 10) w w (Nat.le_refl _) (by decide) _).below ((Below.refl _ _).alloc (Nat.le_refl _) _), own_lit2 (pinsOut 10) w _ (by decide) _, ((Below.refl _ _).alloc (Nat.le_refl _) _).alloc (by simp) _⟩
  · go_enter Try.func33, Try.ntmps33
    go_wp2
    go_ret2
    exact ⟨_, _, rfl, (own_lit (pinsIn 11) w w (Nat.le_refl _) (by decide) _).below ((Below.refl _ _).alloc (Nat.le_refl _) _), own_lit2 (pinsOut 11) w _ (by decide) _, ((Below.refl _ _).alloc (Nat.le_refl _) _).alloc (by simp) _⟩
/-- What the reference's timer makes: the block, nothing else. -/
def TimPost (w : World) (B : Nat) (b : GBlock) (now pt : Int) (e : Ending) (w' : World) : Prop := e = .returned (.bool (overB b now pt)) ∧ BlkAt w' B (goB b now pt) ∧ w.grownBy w' (some B)
theorem tim_closeT {w : World} {B : Nat} {b : GBlock} {now x V U : Int} {r : Bool} (hB : BlkAt w B b) (hg : b.going = true) (hV : V = min (max (now - b.frm) 0) x) (hr : r = decide (x ≤ max (now - b.frm) 0)) : TimPost w B b now x (.returned (.bool r)) ((w.setCell ⟨B, 6, none⟩ (.int .i64 U)).setCell ⟨B, 6, none⟩ (.int .i64 V)) := by
  have e1 : overB b now x = r := by rw [hr]; simp [overB, goneB, sinceB, hg]
  have e2 : goB b now x = { b with going := b.going, frm := b.frm, et := V } := by simp [goB, goneB, sinceB, hg, hV]
  unfold TimPost
  rw [e1, e2]
  exact ⟨rfl, set10_6 (set10_6 hB), grown_trans (grown_set w B 6 _) (grown_set _ B 6 _)⟩
theorem tim_closeT1 {w : World} {B : Nat} {b : GBlock} {now x V : Int} {r : Bool} (hB : BlkAt w B b) (hg : b.going = true) (hV : V = min (max (now - b.frm) 0) x) (hr : r = decide (x ≤ max (now - b.frm) 0)) : TimPost w B b now x (.returned (.bool r)) (w.setCell ⟨B, 6, none⟩ (.int .i64 V)) := by
  have e1 : overB b now x = r := by rw [hr]; simp [overB, goneB, sinceB, hg]
  have e2 : goB b now x = { b with going := b.going, frm := b.frm, et := V } := by simp [goB, goneB, sinceB, hg, hV]
  unfold TimPost
  rw [e1, e2]
  exact ⟨rfl, set10_6 hB, grown_set w B 6 _⟩
theorem tim_closeF {w : World} {B : Nat} {b : GBlock} {now x V U : Int} {r : Bool} (hB : BlkAt w B b) (hg : b.going = false) (hV : V = min 0 x) (hr : r = decide (x ≤ 0)) : TimPost w B b now x (.returned (.bool r)) ((((w.setCell ⟨B, 4, none⟩ (.bool true)).setCell ⟨B, 5, none⟩ (.int .i64 now)).setCell ⟨B, 6, none⟩ (.int .i64 U)).setCell ⟨B, 6, none⟩ (.int .i64 V)) := by
  have e1 : overB b now x = r := by rw [hr]; simp [overB, goneB, sinceB, hg]
  have e2 : goB b now x = { b with going := true, frm := now, et := V } := by simp [goB, goneB, sinceB, hg, hV]
  unfold TimPost
  rw [e1, e2]
  exact ⟨rfl, set10_6 (set10_6 (set10_5 (set10_4 hB))), grown_trans (grown_set w B 4 _) (grown_trans (grown_set _ B 5 _) (grown_trans (grown_set _ B 6 _) (grown_set _ B 6 _)))⟩
theorem tim_closeF1 {w : World} {B : Nat} {b : GBlock} {now x V : Int} {r : Bool} (hB : BlkAt w B b) (hg : b.going = false) (hV : V = min 0 x) (hr : r = decide (x ≤ 0)) : TimPost w B b now x (.returned (.bool r)) (((w.setCell ⟨B, 4, none⟩ (.bool true)).setCell ⟨B, 5, none⟩ (.int .i64 now)).setCell ⟨B, 6, none⟩ (.int .i64 V)) := by
  have e1 : overB b now x = r := by rw [hr]; simp [overB, goneB, sinceB, hg]
  have e2 : goB b now x = { b with going := true, frm := now, et := V } := by simp [goB, goneB, sinceB, hg, hV]
  unfold TimPost
  rw [e1, e2]
  exact ⟨rfl, set10_6 (set10_5 (set10_4 hB)), grown_trans (grown_set w B 4 _) (grown_trans (grown_set _ B 5 _) (grown_set _ B 6 _))⟩
set_option maxRecDepth 100000 in
set_option maxHeartbeats 1000000 in
theorem rtimer_any (w : World) (B : Nat) (b : GBlock) (pt now : Int) (h : BlkAt w B b) (n1 : 0 ≤ now) (n2 : now ≤ 1125899906842624) (f1 : 0 ≤ b.frm) (f2 : b.frm ≤ 1125899906842624) :
    Calls Try.prog 35 #[.pointer (some ⟨B, 0, none⟩), .int .i64 pt, .int .i64 now] w (TimPost w B b now pt) := by
  have H := Fact.mk h
  obtain ⟨d0, d1, d2, d3, d4, d5, d6, d7, d8, d9, g0, g1, g2, g3, g4, g5, g6, g7, g8, g9⟩ := row10 h
  clear h
  cases hg : b.going with
  | true =>
    rw [hg] at d4
    have HG := Fact.mk hg
    clear hg
    by_cases ha : now - b.frm < 0
    · by_cases hp : pt < 0
      · go_enter Try.func35, Try.ntmps35
        go_wp2
        go_ret
        exact tim_closeT H.out HG.out (by omega) (by first | (rw [decide_eq_decide]; omega) | (symm; simp <;> omega))
      · go_enter Try.func35, Try.ntmps35
        go_wp2
        go_ret
        exact tim_closeT1 H.out HG.out (by omega) (by first | (rw [decide_eq_decide]; omega) | (symm; simp <;> omega))
    · by_cases hp : pt < now - b.frm
      · go_enter Try.func35, Try.ntmps35
        go_wp2
        go_ret
        exact tim_closeT H.out HG.out (by omega) (by first | (rw [decide_eq_decide]; omega) | (symm; simp <;> omega))
      · go_enter Try.func35, Try.ntmps35
        go_wp2
        go_ret
        exact tim_closeT1 H.out HG.out (by omega) (by first | (rw [decide_eq_decide]; omega) | (symm; simp <;> omega))
  | false =>
    rw [hg] at d4
    have HG := Fact.mk hg
    clear hg
    by_cases hp : pt < 0
    · go_enter Try.func35, Try.ntmps35
      go_wp2
      go_ret
      exact tim_closeF H.out HG.out (by omega) (by first | (rw [decide_eq_decide]; omega) | (symm; simp <;> omega))
    · go_enter Try.func35, Try.ntmps35
      go_wp2
      go_ret
      exact tim_closeF1 H.out HG.out (by omega) (by first | (rw [decide_eq_decide]; omega) | (symm; simp <;> omega))
theorem more_any (n : Int) (w : World) (h1 : -2147483648 ≤ n) (h2 : n ≤ 2147483647) : Calls Try.prog 36 #[.int .i64 n] w fun e w' => e = .returned (.int .i64 (stepC n 1)) ∧ w = w' := by
  by_cases h : n = 2147483647
  · subst h
    go_enter Try.func36, Try.ntmps36
    go_wp2
    go_ret
    exact ⟨rfl, rfl⟩
  · have hb : (n == 2147483647) = false := beq_eq_false_iff_ne.2 h
    go_enter Try.func36, Try.ntmps36
    go_wp2
    go_ret
    exact ⟨ret_int (by unfold stepC; omega), rfl⟩
theorem less_any (n : Int) (w : World) (h1 : -2147483648 ≤ n) (h2 : n ≤ 2147483647) : Calls Try.prog 37 #[.int .i64 n] w fun e w' => e = .returned (.int .i64 (stepC n (-1))) ∧ w = w' := by
  by_cases h : n = -2147483648
  · subst h
    go_enter Try.func37, Try.ntmps37
    go_wp2
    go_ret
    exact ⟨rfl, rfl⟩
  · have hb : (n == -2147483648) = false := beq_eq_false_iff_ne.2 h
    go_enter Try.func37, Try.ntmps37
    go_wp2
    go_ret
    exact ⟨ret_int (by unfold stepC; omega), rfl⟩
theorem around_any (a b : Bool) (w : World) : Calls Try.prog 38 #[.bool a, .bool b] w fun e w' => e = .returned (.int .i64 (arB a b : Nat)) ∧ w' = w := by
  cases a <;> cases b
  all_goals
    go_enter Try.func38, Try.ntmps38
    go_wp2
    go_ret
    exact ⟨rfl, rfl⟩
theorem arB_le (a b : Bool) : arB a b ≤ 3 := by cases a <;> cases b <;> decide
theorem okIns_get {ts xs : List Int} (h : okIns ts xs = true) (m : Nat) (h1 : m < ts.length) (h2 : m < xs.length) : inR ts[m] xs[m] = true := by
  induction ts generalizing xs m with
  | nil => exact absurd h1 (by simp)
  | cons t ts ih =>
    cases xs with
    | nil => exact absurd h2 (by simp)
    | cons x xs =>
      simp only [okIns, Bool.and_eq_true] at h
      cases m with
      | zero => exact h.1
      | succ m => exact ih h.2 m (by simpa using h1) (by simpa using h2)
end Go.Proofs.Ytjanofopmmndoaa

