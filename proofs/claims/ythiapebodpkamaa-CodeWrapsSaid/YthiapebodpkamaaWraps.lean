/- The walk of the law CodeWraps. -/
import Derived.Test.YthiapebodpkamaaAwake
import Derived.Outline
namespace Go.Proofs.Ythiapebodpkamaa
open Go.RowKit
theorem wrapOf_out {t : Int} (h : t < 1 ∨ 5 < t) (n : Int) : wrapOf t n = 0 ∧ (rangeOf t).1 = 0 ∧ (rangeOf t).2 = 0 := by
  unfold wrapOf rangeOf
  rw [if_neg (by omega), if_neg (by omega), if_neg (by omega), if_neg (by omega), if_neg (by omega), if_neg (by omega), if_neg (by omega), if_neg (by omega), if_neg (by omega), if_neg (by omega)]
  exact ⟨rfl, rfl, rfl⟩
theorem type_cases {t : Int} (h1 : 1 ≤ t) (h2 : t ≤ 5) : t = 1 ∨ t = 2 ∨ t = 3 ∨ t = 4 ∨ t = 5 := by omega
theorem wrapOf_in {t : Int} (h1 : 1 ≤ t) (h2 : t ≤ 5) (n : Int) : (rangeOf t).1 ≤ wrapOf t n ∧ wrapOf t n ≤ (rangeOf t).2 ∧ ((rangeOf t).1 ≤ n → n ≤ (rangeOf t).2 → wrapOf t n = n) ∧ (rangeOf t).1 < (rangeOf t).2 := by
  rcases type_cases h1 h2 with rfl | rfl | rfl | rfl | rfl <;> simp only [wrapOf, rangeOf, IntKind.wrap, IntKind.bits, IntKind.signed] <;> simp <;> omega
def modOf (t : Int) : Int := if t = 2 then 256 else if t = 3 then 65536 else 4294967296
theorem wrapOf_emod {t : Int} (h1 : 2 ≤ t) (h2 : t ≤ 5) (n : Int) : wrapOf t n % modOf t = n % modOf t := by
  rcases type_cases (by omega) h2 with rfl | rfl | rfl | rfl | rfl <;> simp only [wrapOf, modOf, IntKind.wrap, IntKind.bits, IntKind.signed] <;> simp <;> omega
theorem wrapOf_of_emod {t : Int} (h1 : 2 ≤ t) (h2 : t ≤ 5) {n m : Int} (h : n % modOf t = m % modOf t) : wrapOf t n = wrapOf t m := by
  revert h
  rcases type_cases (by omega) h2 with rfl | rfl | rfl | rfl | rfl <;> simp only [wrapOf, modOf, IntKind.wrap, IntKind.bits, IntKind.signed] <;> simp <;> omega
theorem wrap64_emod {t : Int} (h1 : 2 ≤ t) (h2 : t ≤ 5) (n : Int) : wrap64 n % modOf t = n % modOf t := by
  rcases type_cases (by omega) h2 with rfl | rfl | rfl | rfl | rfl <;> simp only [modOf] <;> unfold wrap64 <;> simp <;> omega
theorem wraps_add {t : Int} (h1 : 2 ≤ t) (h2 : t ≤ 5) (a b : Int) : wrapOf t (wrap64 (a + b)) = wrapOf t (wrap64 (wrapOf t a + wrapOf t b)) := by
  refine wrapOf_of_emod h1 h2 ?_
  rw [wrap64_emod h1 h2, wrap64_emod h1 h2, Int.add_emod, Int.add_emod (wrapOf t a), wrapOf_emod h1 h2, wrapOf_emod h1 h2]
theorem wraps_sub {t : Int} (h1 : 2 ≤ t) (h2 : t ≤ 5) (a b : Int) : wrapOf t (wrap64 (a - b)) = wrapOf t (wrap64 (wrapOf t a - wrapOf t b)) := by
  refine wrapOf_of_emod h1 h2 ?_
  rw [wrap64_emod h1 h2, wrap64_emod h1 h2, Int.sub_emod, Int.sub_emod (wrapOf t a), wrapOf_emod h1 h2, wrapOf_emod h1 h2]
theorem wraps_mul {t : Int} (h1 : 2 ≤ t) (h2 : t ≤ 5) (a b : Int) : wrapOf t (wrap64 (a * b)) = wrapOf t (wrap64 (wrapOf t a * wrapOf t b)) := by
  refine wrapOf_of_emod h1 h2 ?_
  rw [wrap64_emod h1 h2, wrap64_emod h1 h2, Int.mul_emod, Int.mul_emod (wrapOf t a), wrapOf_emod h1 h2, wrapOf_emod h1 h2]
set_option maxHeartbeats 1000000 in
set_option maxRecDepth 100000 in
theorem wraps_any (t a b : Int) (w : World) : Calls Try.prog 3 #[.int .u8 t, .int .i64 a, .int .i64 b] w fun e w' => e = .returned (.bool true) ∧ Below w.heap.size w w' := by
  by_cases ho : t < 1 ∨ 5 < t
  · have ho' : ∀ w, Calls Try.prog 15 #[.int .u8 t, .int .i64 a] w fun e w' => e = .returned (.int .i64 0) ∧ w = w' := fun w => by
      have := wrap_any t a w
      rwa [(wrapOf_out ho a).1] at this
    have hr' : ∀ w, Calls Try.prog 14 #[.int .u8 t] w fun e w' => e = .returned (.tuple #[.int .i64 0, .int .i64 0]) ∧ w = w' := fun w => by
      have := range_any t w
      rwa [(wrapOf_out ho a).2.1, (wrapOf_out ho a).2.2] at this
    rcases ho with ho | ho
    all_goals
      go_enter Try.func3, Try.ntmps3
      go_wp2_with (first | (go_at_call 15; refine (ho' _).mono ?_; rintro e w' ⟨rfl, rfl⟩) | (go_at_call 14; refine (hr' _).mono ?_; rintro e w' ⟨rfl, rfl⟩) | (go_at_call 16; refine (awake_any _).mono ?_; rintro e w1 ⟨rfl, hb⟩))
      go_ret
      exact ⟨rfl, hb⟩
  · have t1 : 1 ≤ t := by omega
    have t2 : t ≤ 5 := by omega
    by_cases tt : t = 1
    · subst tt
      have x1 : (rangeOf 1).1 = 0 := rfl
      have x2 : (rangeOf 1).2 = 1 := rfl
      have x3 : wrapOf 1 1 = 1 := rfl
      have x4 : wrapOf 1 0 = 0 := rfl
      by_cases ha : a = 0
      · subst ha
        go_enter Try.func3, Try.ntmps3
        go_wp2_with (first | (go_at_call 15; refine (wrap_any _ _ _).mono ?_; rintro e w' ⟨rfl, rfl⟩; try simp only [x4]) | (go_at_call 14; refine (range_any _ _).mono ?_; rintro e w' ⟨rfl, rfl⟩; try simp only [x1, x2]) | (go_at_call 16; refine (awake_any _).mono ?_; rintro e w1 ⟨rfl, hb⟩))
        go_ret
        exact ⟨rfl, hb⟩
      · have x5 : wrapOf 1 a = 1 := by simp [wrapOf, ha]
        rcases (by omega : a < 0 ∨ a = 1 ∨ 1 < a) with ha1 | ha1 | ha1
        · go_enter Try.func3, Try.ntmps3
          go_wp2_with (first | (go_at_call 15; refine (wrap_any _ _ _).mono ?_; rintro e w' ⟨rfl, rfl⟩; try simp only [x5, x3]) | (go_at_call 14; refine (range_any _ _).mono ?_; rintro e w' ⟨rfl, rfl⟩; try simp only [x1, x2]) | (go_at_call 16; refine (awake_any _).mono ?_; rintro e w1 ⟨rfl, hb⟩))
          go_ret
          exact ⟨by simp [ha], hb⟩
        · subst ha1
          go_enter Try.func3, Try.ntmps3
          go_wp2_with (first | (go_at_call 15; refine (wrap_any _ _ _).mono ?_; rintro e w' ⟨rfl, rfl⟩; try simp only [x3]) | (go_at_call 14; refine (range_any _ _).mono ?_; rintro e w' ⟨rfl, rfl⟩; try simp only [x1, x2]) | (go_at_call 16; refine (awake_any _).mono ?_; rintro e w1 ⟨rfl, hb⟩))
          go_ret
          exact ⟨rfl, hb⟩
        · go_enter Try.func3, Try.ntmps3
          go_wp2_with (first | (go_at_call 15; refine (wrap_any _ _ _).mono ?_; rintro e w' ⟨rfl, rfl⟩; try simp only [x5, x3]) | (go_at_call 14; refine (range_any _ _).mono ?_; rintro e w' ⟨rfl, rfl⟩; try simp only [x1, x2]) | (go_at_call 16; refine (awake_any _).mono ?_; rintro e w1 ⟨rfl, hb⟩))
          go_ret
          exact ⟨by simp [ha], hb⟩
    · obtain ⟨r1, r2, r3, r4⟩ := wrapOf_in t1 t2 a
      obtain ⟨-, -, s3, -⟩ := wrapOf_in t1 t2 (wrapOf t a)
      have s4 := s3 r1 r2
      have z1 := wraps_add (by omega) t2 a b
      have z2 := wraps_sub (by omega) t2 a b
      have z3 := wraps_mul (by omega) t2 a b
      clear s3 ho
      rcases (by omega : a < (rangeOf t).1 ∨ (rangeOf t).2 < a ∨ ((rangeOf t).1 ≤ a ∧ a ≤ (rangeOf t).2)) with ha | ha | ⟨ha, ha'⟩
      · clear r3
        go_enter Try.func3, Try.ntmps3
        go_wp2_with (first | (go_at_call 15; refine (wrap_any _ _ _).mono ?_; rintro e w' ⟨rfl, rfl⟩; try simp only [s4]) | (go_at_call 14; refine (range_any _ _).mono ?_; rintro e w' ⟨rfl, rfl⟩) | (go_at_call 16; refine (awake_any _).mono ?_; rintro e w1 ⟨rfl, hb⟩))
        go_ret
        exact ⟨rfl, hb⟩
      · clear r3
        go_enter Try.func3, Try.ntmps3
        go_wp2_with (first | (go_at_call 15; refine (wrap_any _ _ _).mono ?_; rintro e w' ⟨rfl, rfl⟩; try simp only [s4]) | (go_at_call 14; refine (range_any _ _).mono ?_; rintro e w' ⟨rfl, rfl⟩) | (go_at_call 16; refine (awake_any _).mono ?_; rintro e w1 ⟨rfl, hb⟩))
        go_ret
        exact ⟨rfl, hb⟩
      · have e := r3 ha ha'
        clear r3
        go_enter Try.func3, Try.ntmps3
        go_wp2_with (first | (go_at_call 15; refine (wrap_any _ _ _).mono ?_; rintro e w' ⟨rfl, rfl⟩) | (go_at_call 14; refine (range_any _ _).mono ?_; rintro e w' ⟨rfl, rfl⟩) | (go_at_call 16; refine (awake_any _).mono ?_; rintro e w1 ⟨rfl, hb⟩))
        go_ret
        exact ⟨rfl, hb⟩
end Go.Proofs.Ythiapebodpkamaa
