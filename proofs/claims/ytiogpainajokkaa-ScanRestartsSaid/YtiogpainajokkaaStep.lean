/- What a run makes of a block: plain Lean. -/
import Derived.Test.YtiogpainajokkaaDiskM
import Derived.Test.YtiogpainajokkaaRBlkM
namespace Go.Proofs.Ytiogpainajokkaa
open Go.RowKit
def stepB (b : GBlock) (ins : List Int) (now : Int) : GBlock :=
  if b.kind = 1 ∨ b.kind = 2 ∨ b.kind = 3 then { timerB b (onB ins 0 && !b.w0) (onB ins 0) now (ins.getD 1 0) with w0 := onB ins 0 }
  else if b.kind = 4 ∨ b.kind = 5 ∨ b.kind = 6 then { counterB b (onB ins 0 && !b.w0) ins (ins.getD (ins.length - 1) 0) with w0 := onB ins 0 }
  else if b.kind = 7 then { b with q := onB ins 0 && !b.w0, w0 := onB ins 0 }
  else if b.kind = 8 then { b with q := !onB ins 0 && b.w0, w0 := onB ins 0 }
  else if b.kind = 9 then { b with q := onB ins 0 || (b.q && !onB ins 1) }
  else if b.kind = 10 then { b with q := !onB ins 1 && (onB ins 0 || b.q) }
  else { diskB b (onB ins 0) (onB ins 1) (onB ins 2) with w0 := onB ins 0 }
def runB (b : GBlock) (ins : List Int) (now : Int) : GBlock × Int := if mayB b ins now = 0 then (stepB b ins now, 0) else (b, mayB b ins now)
theorem rightBlk_bnd {b : GBlock} (h : rightBlk b = true) : 0 ≤ b.frm ∧ b.frm ≤ 1125899906842624 ∧ 0 ≤ b.et ∧ b.et ≤ 1125899906842624 ∧ -2147483648 ≤ b.cv ∧ b.cv ≤ 2147483647 := by
  simp only [rightBlk, bndB, Bool.and_eq_true, decide_eq_true_eq] at h
  obtain ⟨⟨⟨⟨⟨⟨b1, b2⟩, b3⟩, b4⟩, b5⟩, b6⟩, _⟩ := h
  exact ⟨b1, b2, b3, b4, b5, b6⟩
theorem mayB_ok {b : GBlock} {ins : List Int} {now : Int} (h : mayB b ins now = 0) : rightBlk b = true ∧ 0 ≤ now ∧ now ≤ 1125899906842624 ∧ okIns (pinsIn b.kind) ins = true := by
  unfold mayB at h
  by_cases h1 : rightBlk b = true
  · rw [if_pos h1] at h
    by_cases h2 : (decide (0 ≤ now) && decide (now ≤ 1125899906842624) && okIns (pinsIn b.kind) ins) = true
    · simp only [Bool.and_eq_true, decide_eq_true_eq] at h2
      exact ⟨h1, h2.1.1, h2.1.2, h2.2⟩
    · rw [if_neg h2] at h; cases h
  · rw [if_neg h1] at h; cases h
theorem Rd.slice {α : Type} {enc : α → List Value} {k : Nat} {w : World} {v : Value} {xs : List α} (h : Rd enc k w v xs) : ∃ A n c, v = .slice A n c := by
  obtain ⟨_, A, c, rfl, _⟩ := h
  exact ⟨_, _, _, rfl⟩
theorem runSt_new {W : World} {A : Option Addr} {n c : Nat} {ins : List Int} {now : Int} {rise fall : Bool} (b : GBlock) (hr : Rd oneI64 1 W (.slice A n c) ins) (hne : (Value.slice A n c).ownBlock ≠ some W.heap.size) :
    RunSt ((W.alloc (.cells #[.int .u8 b.kind, .bool b.w0, .bool b.w1, .bool b.ran, .bool b.going, .int .i64 b.frm, .int .i64 b.et, .int .i64 b.cv, .bool b.q, .bool b.p] 67)).alloc (.cells #[.pointer (some ⟨W.heap.size, 0, none⟩), .slice A n c, .int .i64 now, .bool rise, .bool fall] 237)) (W.heap.size + 1) W.heap.size ins now rise fall b := by
  obtain ⟨y1, y2, y3, _⟩ := two_blocks W (.cells #[.int .u8 b.kind, .bool b.w0, .bool b.w1, .bool b.ran, .bool b.going, .int .i64 b.frm, .int .i64 b.et, .int .i64 b.cv, .bool b.q, .bool b.p] 67) (.cells #[.pointer (some ⟨W.heap.size, 0, none⟩), .slice A n c, .int .i64 now, .bool rise, .bool fall] 237)
  exact ⟨⟨_, hr.below y1, hne, y3⟩, y2, by omega⟩
theorem own_ne {a : Addr} {n c k : Nat} (h : a.block < k) : (Value.slice (some a) n c).ownBlock ≠ some k := by
  intro e
  simp only [Value.ownBlock, Option.some.injEq] at e
  omega
theorem size_set (w : World) (a : Addr) (v : Value) : (w.setCell a v).heap.size = w.heap.size := by simp
theorem ret_blk {b b' : GBlock} (h : b = b') (n : Int) : Ending.returned (.tuple #[.agg #[.int .u8 b.kind, .bool b.w0, .bool b.w1, .bool b.ran, .bool b.going, .int .i64 b.frm, .int .i64 b.et, .int .i64 b.cv, .bool b.q, .bool b.p], .int .i64 n]) = .returned (.tuple #[.agg #[.int .u8 b'.kind, .bool b'.w0, .bool b'.w1, .bool b'.ran, .bool b'.going, .int .i64 b'.frm, .int .i64 b'.et, .int .i64 b'.cv, .bool b'.q, .bool b'.p], .int .i64 n]) := by rw [h]
end Go.Proofs.Ytiogpainajokkaa

