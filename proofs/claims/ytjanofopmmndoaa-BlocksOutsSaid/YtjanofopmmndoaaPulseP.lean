/- Timers, plainly: a step of each. -/
import Derived.Test.YtjanofopmmndoaaLnew
namespace Go.Proofs.Ytjanofopmmndoaa
open Go.RowKit
theorem pul_go_over (was x : Bool) (f e : Int) {p nw : Int} (h : p ≤ max (nw - f) 0) (r : Bool) : timerB (tmB 3 was true f e true) r x nw p = tmB 3 was false 0 (if x = true then min (max (nw - f) 0) p else 0) false := by
  have ho : overB (tmB 3 was true f e true) nw p = true := decide_eq_true h
  have e1 : timerB (tmB 3 was true f e true) r x nw p = pulseE (pulseC (pulseA (tmB 3 was true f e true) r nw) nw p) x := rfl
  have e2 : pulseA (tmB 3 was true f e true) r nw = tmB 3 was true f e true := by cases r <;> rfl
  have e3 : pulseC (tmB 3 was true f e true) nw p = runOn (tmB 3 was true f e true) nw p := rfl
  rw [e1, e2, e3]
  unfold runOn
  rw [if_pos ho]
  cases x <;> rfl
theorem pul_go_on (was x : Bool) (f e : Int) {p nw : Int} (h : ¬ p ≤ max (nw - f) 0) (r : Bool) : timerB (tmB 3 was true f e true) r x nw p = tmB 3 was true f (min (max (nw - f) 0) p) true := by
  have ho : ¬ overB (tmB 3 was true f e true) nw p = true := fun hh => h (of_decide_eq_true hh)
  have e1 : timerB (tmB 3 was true f e true) r x nw p = pulseE (pulseC (pulseA (tmB 3 was true f e true) r nw) nw p) x := rfl
  have e2 : pulseA (tmB 3 was true f e true) r nw = tmB 3 was true f e true := by cases r <;> rfl
  have e3 : pulseC (tmB 3 was true f e true) nw p = runOn (tmB 3 was true f e true) nw p := rfl
  rw [e1, e2, e3]
  unfold runOn
  rw [if_neg ho]
  cases x <;> rfl
theorem pul_rise (e : Int) (p nw : Int) : timerB (tmB 3 false false 0 e false) true true nw p = timerB (tmB 3 false true nw e true) false true nw p := rfl
theorem pul_idle (e : Int) (p nw : Int) : timerB (tmB 3 true false 0 e false) false true nw p = tmB 3 true false 0 e false := rfl
theorem pul_idle0 (was : Bool) (e : Int) (p nw : Int) : timerB (tmB 3 was false 0 e false) false false nw p = tmB 3 was false 0 0 false := rfl
theorem on_off (was g q r : Bool) (f e : Int) (p nw : Int) : timerB (tmB 1 was g f e q) r false nw p = tmB 1 was false 0 0 false := rfl
theorem on_on (was g q r : Bool) (f e : Int) (p nw : Int) : timerB (tmB 1 was g f e q) r true nw p = tmB 1 was true (if g = true then f else nw) (min (max (nw - (if g = true then f else nw)) 0) p) (decide (p ≤ max (nw - (if g = true then f else nw)) 0)) := rfl
theorem off_on (was g q r : Bool) (f e : Int) (p nw : Int) : timerB (tmB 2 was g f e q) r true nw p = tmB 2 was false 0 0 true := rfl
theorem off_idle (was g r : Bool) (f e : Int) (p nw : Int) : timerB (tmB 2 was g f e false) r false nw p = tmB 2 was g f e false := rfl
theorem off_over (was g r : Bool) (f e : Int) {p nw : Int} (h : p ≤ max (nw - (if g = true then f else nw)) 0) : timerB (tmB 2 was g f e true) r false nw p = tmB 2 was false 0 (min (max (nw - (if g = true then f else nw)) 0) p) false := by
  have ho : overB (tmB 2 was g f e true) nw p = true := decide_eq_true h
  have e1 : timerB (tmB 2 was g f e true) r false nw p = runOn (tmB 2 was g f e true) nw p := rfl
  rw [e1]
  unfold runOn
  rw [if_pos ho]
  rfl
theorem off_goes (was g r : Bool) (f e : Int) {p nw : Int} (h : ¬ p ≤ max (nw - (if g = true then f else nw)) 0) : timerB (tmB 2 was g f e true) r false nw p = tmB 2 was true (if g = true then f else nw) (min (max (nw - (if g = true then f else nw)) 0) p) true := by
  have ho : ¬ overB (tmB 2 was g f e true) nw p = true := fun hh => h (of_decide_eq_true hh)
  have e1 : timerB (tmB 2 was g f e true) r false nw p = runOn (tmB 2 was g f e true) nw p := rfl
  rw [e1]
  unfold runOn
  rw [if_neg ho]
  rfl
theorem run_step {k : Int} {was g q x g' q' : Bool} {f e f' e' p t : Int} (h : TmOk k g f e) (p1 : 0 ≤ p) (p2 : p ≤ 4294967295) (t1 : 0 ≤ t) (t2 : t ≤ 1125899906842624) (hs : timerB (tmB k was g f e q) (x && !was) x t p = tmB k was g' f' e' q') : runB (tmB k was g f e q) [truthI x, p] t = (tmB k x g' f' e' q', 0) := by
  rw [run_tm h x p1 p2 t1 t2, hs]
  rfl
end Go.Proofs.Ytjanofopmmndoaa
