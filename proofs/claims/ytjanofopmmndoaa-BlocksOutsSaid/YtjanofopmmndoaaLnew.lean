/- One run of a block in memory, its inputs just laid. -/
import Derived.Test.YtjanofopmmndoaaTimer
namespace Go.Proofs.Ytjanofopmmndoaa
open Go.RowKit
theorem lrun_new {b b' : GBlock} {ins outs : List Int} {now : Int} {w : World} {B : Nat} (hB : BlkAt w B b) (h0 : runB b ins now = (b', 0)) (ho : outsB b' = outs) (hl : ins.length ≤ 100) :
    Calls Try.prog 21 #[.pointer (some ⟨B, 0, none⟩), .int .i64 now, .slice (some ⟨w.heap.size, 0, none⟩) ins.length ins.length] (w.alloc (.cells (ins.flatMap oneI64).toArray 2)) (LrunPost w B b' outs) := by
  have ha := (Below.refl w.heap.size w).alloc (Nat.le_refl _) (.cells (ins.flatMap oneI64).toArray 2)
  have h := lrun_any b ins _ now _ B (hB.below ha) (rd_new oneI64 1 oneI64_len w ins 2 (by omega)) (by rw [h0])
  rw [h0, ho] at h
  exact h.mono fun e w' ⟨v, h1, h2, h3, h4, h5⟩ => ⟨v, h1, h2, h3, grown_trans (World.grownBy_alloc _ _ _) h4, fun k hk => Nat.le_trans ha.size (h5 k hk)⟩
theorem Rd.two64 {w : World} {v : Value} {x y : Int} (h : Rd oneI64 1 w v [x, y]) : ∃ b off c, v = .slice (some ⟨b, off, none⟩) 2 c ∧ w.cell? ⟨b, off, none⟩ = some (.int .i64 x) ∧ w.cell? ⟨b, off + 1, none⟩ = some (.int .i64 y) := by
  obtain ⟨b, off, c, e, h0⟩ := h.at64 0 (by simp)
  obtain ⟨_, _, _, e1, h1⟩ := h.at64 1 (by simp)
  rw [e] at e1
  cases e1
  exact ⟨b, off, c, e, h0, h1⟩
theorem LrunPost.fresh_ne {w : World} {v : Value} {B : Nat} {b : GBlock} (hf : Fresh w v) (hB : BlkAt w B b) : v.ownBlock ≠ some B := fun e => by
  have := hf B e
  have := hB.lt
  omega
end Go.Proofs.Ytjanofopmmndoaa
