/- Contract of the runner's disk: the complex quotient by its sixteen cases. -/
import Derived.Test.YtjanofopmmndoaaCnt
import Derived.Laws.ComplexQuo
import Derived.WalkLawsBesides
import Derived.Deep.RegionWith
namespace Go.Proofs.Ytjanofopmmndoaa
open Go.RowKit
def sgB (b : Bool) : Nat := if b = true then 4607182418800017408 else 13830554455654793216
def ptV (a b : Bool) : Value := .complex .f64 (sgB a) (sgB b)
def turnV (a b c d : Bool) : Value := match cQuoBits (sgB a) (sgB b) (sgB c) (sgB d) with
  | some (re, im) => .complex .f64 re im
  | none => undef
def arB (a b : Bool) : Nat := if a = true then (if b = true then 2 else 1) else (if b = true then 3 else 0)
def turnOf (a b c d : Bool) : Nat := (arB a b + 4 - arB c d) % 4
theorem quo_turn (a b c d : Bool) (w : World) : (binOp .quo 77 (ptV a b) (ptV c d)).run Try.prog w = .ok (turnV a b c d) w := by
  cases a <;> cases b <;> cases c <;> cases d <;> kernel_rfl
theorem turn_1 (a b c d : Bool) (w : World) : (binOp .eql 77 (turnV a b c d) (.complex .f64 0 4607182418800017408)).run Try.prog w = .ok (.bool (decide (turnOf a b c d = 1))) w := by
  cases a <;> cases b <;> cases c <;> cases d <;> kernel_rfl
theorem turn_3 (a b c d : Bool) (w : World) : (binOp .eql 77 (turnV a b c d) (.complex .f64 0 13830554455654793216)).run Try.prog w = .ok (.bool (decide (turnOf a b c d = 3))) w := by
  cases a <;> cases b <;> cases c <;> cases d <;> kernel_rfl
theorem turn_2 (a b c d : Bool) (w : World) : (binOp .eql 77 (turnV a b c d) (.complex .f64 13830554455654793216 0)).run Try.prog w = .ok (.bool (decide (turnOf a b c d = 2))) w := by
  cases a <;> cases b <;> cases c <;> cases d <;> kernel_rfl
theorem turn_guard (x y : Operand) (a b c d : Bool) (re im : Nat) (w : World) : (eqGuard .eql 77 x y (turnV a b c d) (.complex .f64 re im)).run Try.prog w = .ok () w := by
  cases a <;> cases b <;> cases c <;> cases d <;> kernel_rfl
theorem add_re (w : World) : (binOp .add 77 (.complex .f64 13830554455654793216 13830554455654793216) (.complex .f64 4611686018427387904 0)).run Try.prog w = .ok (.complex .f64 4607182418800017408 13830554455654793216) w := by kernel_rfl
theorem add_im (a : Bool) (w : World) : (binOp .add 77 (.complex .f64 (sgB a) 13830554455654793216) (.complex .f64 0 4611686018427387904)).run Try.prog w = .ok (.complex .f64 (sgB a) 4607182418800017408) w := by cases a <;> kernel_rfl
set_option maxRecDepth 100000 in
theorem point_any (a b : Bool) (w : World) : Calls Try.prog 45 #[.bool a, .bool b] w fun e w' => e = .returned (ptV a b) ∧ w' = w := by
  have h1 := add_re
  have h2 := add_im true
  have h3 := add_im false
  simp only [sgB, if_true, Bool.false_eq_true, if_false] at h2 h3
  cases a <;> cases b
  all_goals
    go_enter Try.func45, Try.ntmps45
    go_wp2
    go_ret
    exact ⟨rfl, rfl⟩
def cvD (cv : Int) (reset ran : Bool) (s : Nat) : Int := if reset = true then 0 else if ran = false then cv else if s = 1 then min (cv + 1) 2147483647 else if s = 3 then max (cv - 1) (-2147483648) else cv
def qD (q reset ran : Bool) (s : Nat) : Bool := if reset = true then false else if ran = false then q else if s = 2 then true else q
def diskB (b : GBlock) (x0 x1 x2 : Bool) : GBlock := { b with cv := cvD b.cv x2 b.ran (turnOf x0 x1 b.w0 b.w1), q := qD b.q x2 b.ran (turnOf x0 x1 b.w0 b.w1), ran := true, w1 := x1 }
end Go.Proofs.Ytjanofopmmndoaa

