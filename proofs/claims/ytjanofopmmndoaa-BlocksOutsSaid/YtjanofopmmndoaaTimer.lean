/- Timers, plainly: what a run makes of one. -/
import Derived.Test.YtjanofopmmndoaaEdge
namespace Go.Proofs.Ytjanofopmmndoaa
open Go.RowKit
def tmB (k : Int) (was going : Bool) (frm et : Int) (q : Bool) : GBlock := ⟨k, was, false, false, going, frm, et, 0, q, false⟩
structure TmOk (k : Int) (going : Bool) (frm et : Int) : Prop where
  kind : k = 1 ∨ k = 2 ∨ k = 3
  f1 : 0 ≤ frm
  f2 : frm ≤ 1125899906842624
  e1 : 0 ≤ et
  e2 : et ≤ 1125899906842624
  g : going = true ∨ frm = 0
theorem right_tm {k : Int} {was going : Bool} {frm et : Int} {q : Bool} (h : TmOk k going frm et) : rightBlk (tmB k was going frm et q) = true := by
  obtain ⟨hk, f1, f2, e1, e2, hg⟩ := h
  simp [rightBlk, bndB, useB, tmB, f1, f2, e1, e2, hk]
  rcases hg with rfl | rfl <;> simp
theorem truthI_le (x : Bool) : 0 ≤ truthI x ∧ truthI x ≤ 1 := by cases x <;> simp [truthI]
theorem onB_truth (x : Bool) (l : List Int) : onB (truthI x :: l) 0 = x := by cases x <;> rfl
theorem may_tm {k : Int} {was going : Bool} {frm et : Int} {q : Bool} (h : TmOk k going frm et) (x : Bool) {p t : Int} (p1 : 0 ≤ p) (p2 : p ≤ 4294967295) (t1 : 0 ≤ t) (t2 : t ≤ 1125899906842624) : mayB (tmB k was going frm et q) [truthI x, p] t = 0 := by
  have hp : pinsIn (tmB k was going frm et q).kind = [1, 5] := by
    rcases h.kind with rfl | rfl | rfl <;> rfl
  have hx := truthI_le x
  have ho : okIns [1, 5] [truthI x, p] = true := by simp [okIns, inR, rangeOf, hx.1, hx.2, p1, p2]
  unfold mayB
  rw [if_pos (right_tm h), hp, ho]
  simp [t1, t2]
theorem run_tm {k : Int} {was going : Bool} {frm et : Int} {q : Bool} (h : TmOk k going frm et) (x : Bool) {p t : Int} (p1 : 0 ≤ p) (p2 : p ≤ 4294967295) (t1 : 0 ≤ t) (t2 : t ≤ 1125899906842624) :
    runB (tmB k was going frm et q) [truthI x, p] t = ({ timerB (tmB k was going frm et q) (x && !was) x t p with w0 := x }, 0) := by
  unfold runB
  rw [if_pos (may_tm h x p1 p2 t1 t2)]
  have hk : (tmB k was going frm et q).kind = 1 ∨ (tmB k was going frm et q).kind = 2 ∨ (tmB k was going frm et q).kind = 3 := h.kind
  unfold stepB
  rw [if_pos hk, onB_truth]
  rfl
theorem outs_tm {k : Int} {was going : Bool} {frm et : Int} {q : Bool} (h : TmOk k going frm et) : outsB (tmB k was going frm et q) = [truthI q, min et 4294967295] := by
  unfold outsB outsK
  rw [if_pos (right_tm h)]
  exact if_pos h.kind
/-- A timer that is on late, its input 1. -/
theorem run_ton {was going : Bool} {frm et : Int} {q : Bool} (h : TmOk 1 going frm et) {p t : Int} (p1 : 0 ≤ p) (p2 : p ≤ 4294967295) (t1 : 0 ≤ t) (t2 : t ≤ 1125899906842624) :
    runB (tmB 1 was going frm et q) [1, p] t = (tmB 1 true true (if going = true then frm else t) (min (max (t - (if going = true then frm else t)) 0) p) (decide (p ≤ max (t - (if going = true then frm else t)) 0)), 0) :=
  run_tm h true p1 p2 t1 t2
end Go.Proofs.Ytjanofopmmndoaa
