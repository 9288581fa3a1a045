/- Contract of blockhouselaw15.run: one run of a block that lies in memory. -/
import Derived.Test.YtjanofopmmndoaaRun
import Derived.Test.YtjanofopmmndoaaOuts
namespace Go.Proofs.Ytjanofopmmndoaa
open Go.RowKit
/-- The block at B. -/
def BlkAt (w : World) (B : Nat) (b : GBlock) : Prop := w.heap[B]? = some (.cells #[.int .u8 b.kind, .bool b.w0, .bool b.w1, .bool b.ran, .bool b.going, .int .i64 b.frm, .int .i64 b.et, .int .i64 b.cv, .bool b.q, .bool b.p] 25 (0, 0))
theorem BlkAt.below {w w' : World} {B : Nat} {b : GBlock} (h : BlkAt w B b) (hb : Below w.heap.size w w') : BlkAt w' B b := by
  unfold BlkAt at h ⊢
  rw [hb.block B (Array.getElem?_eq_some_iff.1 h).1]; exact h
theorem BlkAt.lt {w : World} {B : Nat} {b : GBlock} (h : BlkAt w B b) : B < w.heap.size := (Array.getElem?_eq_some_iff.1 h).1
/-- What one run in memory leaves: its outputs, the block. -/
def LrunPost (w : World) (B : Nat) (b' : GBlock) (outs : List Int) (e : Ending) (w' : World) : Prop := ∃ v, e = .returned v ∧ Rd oneI64 1 w' v outs ∧ BlkAt w' B b' ∧ w.grownBy w' (some B) ∧ Fresh w v
set_option maxRecDepth 100000 in
set_option maxHeartbeats 1000000 in
theorem lrun_any (b : GBlock) (ins : List Int) (vs : Value) (now : Int) (w : World) (B : Nat) (hB : BlkAt w B b) (hr : Rd oneI64 1 w vs ins) (h0 : (runB b ins now).2 = 0) :
    Calls Try.prog 21 #[.pointer (some ⟨B, 0, none⟩), .int .i64 now, vs] w (LrunPost w B (runB b ins now).1 (outsB (runB b ins now).1)) := by
  have hrun := run_any b ins vs now w hr
  obtain ⟨b', hb'⟩ : ∃ b', (runB b ins now).1 = b' := ⟨_, rfl⟩
  rw [hb', h0] at hrun
  rw [hb']
  obtain ⟨A, n, c, rfl⟩ := hr.slice
  have HB := Fact.mk hB
  obtain ⟨d0, d1, d2, d3, d4, d5, d6, d7, d8, d9, -, -, -, -, -, -, -, -, -, -⟩ := row10 hB
  clear hr h0 hb' hB
  unfold vBlk at hrun
  go_enter Try.func21, Try.ntmps21
  go_wp2_with fail
  refine hrun.mono ?_
  rintro e W1 ⟨rfl, hb1⟩
  have hB1 := HB.out.below hb1
  have lt1 : B < W1.heap.size := hB1.lt
  have HW1 := Fact.mk hb1
  have H1 := Fact.mk hB1
  clear d0 d1 d2 d3 d4 d5 d6 d7 d8 d9
  obtain ⟨d0, d1, d2, d3, d4, d5, d6, d7, d8, d9, g0, g1, g2, g3, g4, g5, g6, g7, g8, g9⟩ := row10 hB1
  clear hb1 hB1 hrun
  go_wp2_with fail
  obtain ⟨w2, e2, h2, k2⟩ := store10 H1.out (.int .u8 b'.kind) (.bool b'.w0) (.bool b'.w1) (.bool b'.ran) (.bool b'.going) (.int .i64 b'.frm) (.int .i64 b'.et) (.int .i64 b'.cv) (.bool b'.q) (.bool b'.p)
  rw [e2]
  clear e2 d0 d1 d2 d3 d4 d5 d6 d7 d8 d9 g0 g1 g2 g3 g4 g5 g6 g7 g8 g9
  have H2 := Fact.mk h2
  have K2 := Fact.mk k2
  clear h2 k2
  refine (outs_any b' _).mono ?_
  rintro e W3 ⟨v, rfl, hrd, hb3, hfr⟩
  have ha := one_block w2 (Obj.cells #[.int .u8 b'.kind, .bool b'.w0, .bool b'.w1, .bool b'.ran, .bool b'.going, .int .i64 b'.frm, .int .i64 b'.et, .int .i64 b'.cv, .bool b'.q, .bool b'.p] 25)
  have hE : LrunPost w B b' (outsB b') (.returned v) W3 := ⟨v, rfl, hrd, ((show BlkAt w2 B b' from H2.out).below ha.1).below hb3, grown_trans (grown_below HW1.out _) (grown_trans K2.out (grown_trans (grown_below ha.1 _) (grown_below hb3 _))), fun k hk => Nat.le_trans (Nat.le_trans HW1.out.size (Nat.le_trans K2.out.size ha.1.size)) (hfr k hk)⟩
  have HE := Fact.mk hE
  clear hE hrd hb3 ha hfr
  go_wp2_with fail
  go_ret
  exact HE.out
end Go.Proofs.Ytjanofopmmndoaa

