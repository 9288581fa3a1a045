/- A run of a block: what its parts make of it (plain Lean), and how runner and block lie in memory. -/
import Derived.Test.YtjanofopmmndoaaBlk
import Derived.Test.YtjanofopmmndoaaRows10
namespace Go.Proofs.Ytjanofopmmndoaa
open Go.RowKit
def oneI64 (x : Int) : List Value := [.int .i64 x]
theorem oneI64_len (x : Int) : (oneI64 x).length = 1 := rfl
def onB (ins : List Int) (i : Nat) : Bool := decide (ins.getD i 0 = 1)
def sinceB (b : GBlock) (now : Int) : Int := if b.going = true then b.frm else now
def goneB (b : GBlock) (now : Int) : Int := max (now - sinceB b now) 0
def goB (b : GBlock) (now pt : Int) : GBlock := { b with going := true, frm := sinceB b now, et := min (goneB b now) pt }
def overB (b : GBlock) (now pt : Int) : Bool := decide (pt ≤ goneB b now)
def stopB (b : GBlock) : GBlock := { b with going := false, frm := 0 }
/-- A runner at R, its block at B. -/
structure RunSt (w : World) (R B : Nat) (ins : List Int) (now : Int) (rise fall : Bool) (b : GBlock) : Prop where
  run : ∃ vs, Rd oneI64 1 w vs ins ∧ vs.ownBlock ≠ some B ∧ w.heap[R]? = some (.cells #[.pointer (some ⟨B, 0, none⟩), vs, .int .i64 now, .bool rise, .bool fall] 68 (0, 0))
  blk : w.heap[B]? = some (.cells #[.int .u8 b.kind, .bool b.w0, .bool b.w1, .bool b.ran, .bool b.going, .int .i64 b.frm, .int .i64 b.et, .int .i64 b.cv, .bool b.q, .bool b.p] 25 (0, 0))
  ne : R ≠ B
theorem Rd.grown {α : Type} {enc : α → List Value} {k : Nat} {w w' : World} {v : Value} {xs : List α} {g : Nat} (h : Rd enc k w v xs) (hg : w.grownBy w' (some g)) (hne : v.ownBlock ≠ some g) : Rd enc k w' v xs := by
  obtain ⟨h0, A, c, h1, h2, h4, h3⟩ := h
  refine ⟨h0, A, c, h1, h2, h4, fun hp => ?_⟩
  obtain ⟨b, off, e, hc⟩ := h3 hp
  refine ⟨b, off, e, fun j hj i u hu => hg.cell (hc j hj i u hu) (fun e2 => hne ?_)⟩
  subst h1 e
  exact e2
theorem RunSt.next {w w' : World} {R B : Nat} {ins : List Int} {now : Int} {rise fall : Bool} {b b' : GBlock} (h : RunSt w R B ins now rise fall b) (hg : w.grownBy w' (some B))
    (hb : w'.heap[B]? = some (.cells #[.int .u8 b'.kind, .bool b'.w0, .bool b'.w1, .bool b'.ran, .bool b'.going, .int .i64 b'.frm, .int .i64 b'.et, .int .i64 b'.cv, .bool b'.q, .bool b'.p] 25 (0, 0))) : RunSt w' R B ins now rise fall b' := by
  obtain ⟨⟨vs, h1, h2, h3⟩, _, h5⟩ := h
  exact ⟨⟨vs, h1.grown hg h2, h2, grown_other hg h3 h5⟩, hb, h5⟩
theorem Rd.at64 {w : World} {v : Value} {xs : List Int} (h : Rd oneI64 1 w v xs) (i : Nat) (hi : i < xs.length) : ∃ b off c, v = .slice (some ⟨b, off, none⟩) xs.length c ∧ w.cell? ⟨b, off + i, none⟩ = some (.int .i64 (xs.getD i 0)) := by
  obtain ⟨h0, A, c, rfl, h2, h4, h3⟩ := h
  obtain ⟨b, off, rfl, hc⟩ := h3 (by omega)
  refine ⟨b, off, c, rfl, ?_⟩
  have := hc i hi 0 (.int .i64 xs[i]) rfl
  rw [show off + i * 1 + 0 = off + i by omega] at this
  rw [this, List.getD_eq_getElem?_getD, List.getElem?_eq_getElem hi]
  rfl
/-- What a method of a runner makes: the block, nothing else. -/
def RunPost (w : World) (R B : Nat) (ins : List Int) (now : Int) (rise fall : Bool) (b' : GBlock) (v : Value) (e : Ending) (w' : World) : Prop := e = .returned v ∧ RunSt w' R B ins now rise fall b' ∧ w.grownBy w' (some B)
end Go.Proofs.Ytjanofopmmndoaa
