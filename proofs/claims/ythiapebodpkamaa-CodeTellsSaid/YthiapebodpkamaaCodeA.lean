/- Contracts of the small functions of package code. -/
import Derived.Test.YthiapebodpkamaaProg
import Derived.Test.YthiapebodpkamaaRange
import Derived.Outline
import Derived.BigQuiet
namespace Go.Proofs.Ythiapebodpkamaa
open Go.RowKit
def wrapOf (t n : Int) : Int := if t = 1 then (if n = 0 then 0 else 1) else if t = 2 then IntKind.i8.wrap n else if t = 3 then IntKind.i16.wrap n else if t = 4 then IntKind.i32.wrap n else if t = 5 then IntKind.u32.wrap n else 0
theorem wrap64_small {n : Int} (h : -9223372036854775808 ≤ n) (h' : n ≤ 9223372036854775807) : wrap64 n = n := by
  unfold wrap64; omega
theorem wrap8_64 (n : Int) : wrap64 (IntKind.i8.wrap n) = IntKind.i8.wrap n := by
  simp only [IntKind.wrap, IntKind.bits, IntKind.signed]; unfold wrap64; simp; omega
theorem wrap16_64 (n : Int) : wrap64 (IntKind.i16.wrap n) = IntKind.i16.wrap n := by
  simp only [IntKind.wrap, IntKind.bits, IntKind.signed]; unfold wrap64; simp; omega
theorem wrap32_64 (n : Int) : wrap64 (wrap32 n) = IntKind.i32.wrap n := by
  simp only [IntKind.wrap, IntKind.bits, IntKind.signed]; unfold wrap64 wrap32; simp; omega
theorem wrapu32_64 (n : Int) : n % 4294967296 = IntKind.u32.wrap n := by
  simp only [IntKind.wrap, IntKind.bits, IntKind.signed]; simp
theorem wrap_any (t n : Int) (w : World) : Calls Try.prog 15 #[.int .u8 t, .int .i64 n] w fun e w' => e = .returned (.int .i64 (wrapOf t n)) ∧ w = w' := by
  unfold wrapOf
  go_enter Try.func15, Try.ntmps15
  go_wp2
  all_goals go_ret
  all_goals (refine ⟨?_, rfl⟩; first | (simp_all; done) | (simp_all [wrap8_64, wrap16_64, wrap32_64, wrapu32_64]; done))
def typedB (n : Int) : Bool := decide (1 ≤ n) && decide (n ≤ 5)
theorem typed_any (n : Int) (w : World) : Calls Try.prog 41 #[.int .i64 n] w fun e w' => e = .returned (.bool (typedB n)) ∧ w = w' := by
  unfold typedB
  go_enter Try.func41, Try.ntmps41
  go_wp2
  all_goals go_ret
  all_goals (refine ⟨?_, rfl⟩; first | (simp_all; done) | (simp_all; omega))
def withinB (t n : Int) : Bool := decide ((rangeOf t).1 ≤ n) && decide (n ≤ (rangeOf t).2)
theorem within_any (t n : Int) (w : World) : Calls Try.prog 42 #[.int .u8 t, .int .i64 n] w fun e w' => e = .returned (.bool (withinB t n)) ∧ w = w' := by
  unfold withinB
  go_enter Try.func42, Try.ntmps42
  go_wp2_with (go_at_call 14; refine (range_any _ _).mono ?_; rintro e w' ⟨rfl, rfl⟩)
  all_goals go_ret
  all_goals (refine ⟨?_, rfl⟩; first | (simp_all; done) | (simp_all; omega))
def namedB (s : ByteArray) : Bool := decide (1 ≤ s.size) && decide (s.size ≤ 40)
theorem named_any (s : ByteArray) (w : World) : Calls Try.prog 40 #[.string s] w fun e w' => e = .returned (.bool (namedB s)) ∧ w = w' := by
  have e40 : decide ((s.size : Int) ≤ 40) = decide (s.size ≤ 40) := by rw [decide_eq_decide]; omega
  unfold namedB
  go_enter Try.func40, Try.ntmps40
  go_wp2
  all_goals go_ret
  all_goals (refine ⟨?_, rfl⟩; first | (simp_all; done) | (simp_all; omega))
end Go.Proofs.Ythiapebodpkamaa

