/- Contract of blocks.Run. -/
import Derived.Test.YtjanofopmmndoaaRunsM
import Derived.Test.YtjanofopmmndoaaRun4
import Derived.Test.YtjanofopmmndoaaRun5
import Derived.Test.YtjanofopmmndoaaRun6
import Derived.Test.YtjanofopmmndoaaRun9
import Derived.Test.YtjanofopmmndoaaRun10
import Derived.Test.YtjanofopmmndoaaRun11
namespace Go.Proofs.Ytjanofopmmndoaa
open Go.RowKit
set_option maxRecDepth 100000 in
set_option maxHeartbeats 1000000 in
theorem run_bad (b : GBlock) (ins : List Int) (vs : Value) (now : Int) (w : World) (hr : Rd oneI64 1 w vs ins) (hm : ¬ mayB b ins now = 0) : Calls Try.prog 18 #[vBlk b, vs, .int .i64 now] w fun e w' => e = .returned (.tuple #[vBlk b, .int .i64 (mayB b ins now)]) ∧ Below w.heap.size w w' := by
  obtain ⟨kind, w0, w1, ran, going, frm, et, cv, q, p⟩ := b
  have hmay := may_any ⟨kind, w0, w1, ran, going, frm, et, cv, q, p⟩ ins _ now _ (hr.below (two_blocks w (Obj.cells #[.int .u8 kind, .bool w0, .bool w1, .bool ran, .bool going, .int .i64 frm, .int .i64 et, .int .i64 cv, .bool q, .bool p] 25) (Obj.cells #[.int .u8 0, .bool false, .bool false, .bool false, .bool false, .int .i64 0, .int .i64 0, .int .i64 0, .bool false, .bool false] 25)).1)
  obtain ⟨A, n, c, rfl⟩ := Rd.slice hr
  obtain ⟨m, hme⟩ : ∃ m, mayB ⟨kind, w0, w1, ran, going, frm, et, cv, q, p⟩ ins now = m := ⟨_, rfl⟩
  rw [hme] at hm hmay ⊢
  have hm1 : (m == 0) = false := beq_eq_false_iff_ne.2 hm
  have hm2 : (m != 0) = true := bne_iff_ne.2 hm
  clear hme hr
  unfold vBlk at hmay ⊢
  go_enter Try.func18, Try.ntmps18
  go_wp2_with fail
  refine hmay.mono ?_
  rintro e W1 ⟨rfl, hb1⟩
  obtain ⟨t1, t2, t3, t4⟩ := two_blocks w (Obj.cells #[.int .u8 kind, .bool w0, .bool w1, .bool ran, .bool going, .int .i64 frm, .int .i64 et, .int .i64 cv, .bool q, .bool p] 25) (Obj.cells #[.int .u8 0, .bool false, .bool false, .bool false, .bool false, .int .i64 0, .int .i64 0, .int .i64 0, .bool false, .bool false] 25)
  have s1 : w.heap.size + 1 + 1 ≤ W1.heap.size := by have := hb1.size; rw [t4] at this; exact this
  have r1 := hb1.block w.heap.size (by rw [t4]; omega)
  rw [t2] at r1
  have r2 := hb1.block (w.heap.size + 1) (by rw [t4]; omega)
  rw [t3] at r2
  have B1 := Fact.mk (t1.trans (hb1.mono t1.size))
  have R2 := Fact.mk r2
  obtain ⟨d0, d1, d2, d3, d4, d5, d6, d7, d8, d9, -, -, -, -, -, -, -, -, -, -⟩ := row10 r1
  obtain ⟨l0, l1, l2, l3, l4, l5, l6, l7, l8, l9, m0, m1, m2, m3, m4, m5, m6, m7, m8, m9⟩ := row10 r2
  clear t1 t2 t3 t4 r1 r2 hb1 hmay s1
  go_wp2_with fail
  obtain ⟨w2, e2, h2, g2⟩ := store10 R2.out (.int .u8 kind) (.bool w0) (.bool w1) (.bool ran) (.bool going) (.int .i64 frm) (.int .i64 et) (.int .i64 cv) (.bool q) (.bool p)
  rw [e2]
  exact bodyPost_ret (res_cell_tmp Try.results18 _ w2 (w.heap.size + 1) rfl h2 Try.underlying25 rfl Try.sizeBlk) rfl ⟨rfl, B1.out.trans (grown_Below g2 B1.out.size (by omega))⟩
theorem kind_cases {b : GBlock} (h : rightBlk b = true) : b.kind = 1 ∨ b.kind = 2 ∨ b.kind = 3 ∨ b.kind = 4 ∨ b.kind = 5 ∨ b.kind = 6 ∨ b.kind = 7 ∨ b.kind = 8 ∨ b.kind = 9 ∨ b.kind = 10 ∨ b.kind = 11 := by
  by_cases hk : b.kind < 1 ∨ 11 < b.kind
  · rw [rightBlk, useB_odd hk, Bool.and_false] at h; cases h
  · omega
theorem run_any (b : GBlock) (ins : List Int) (vs : Value) (now : Int) (w : World) (hr : Rd oneI64 1 w vs ins) : Calls Try.prog 18 #[vBlk b, vs, .int .i64 now] w fun e w' => e = .returned (.tuple #[vBlk (runB b ins now).1, .int .i64 (runB b ins now).2]) ∧ Below w.heap.size w w' := by
  by_cases hm : mayB b ins now = 0
  · have e : runB b ins now = (stepB b ins now, 0) := if_pos hm
    rw [e]
    rcases kind_cases (mayB_ok hm).1 with hk | hk | hk | hk | hk | hk | hk | hk | hk | hk | hk
    · exact run_1 b ins vs now w hr hk hm
    · exact run_2 b ins vs now w hr hk hm
    · exact run_3 b ins vs now w hr hk hm
    · exact run_4 b ins vs now w hr hk hm
    · exact run_5 b ins vs now w hr hk hm
    · exact run_6 b ins vs now w hr hk hm
    · exact run_7 b ins vs now w hr hk hm
    · exact run_8 b ins vs now w hr hk hm
    · exact run_9 b ins vs now w hr hk hm
    · exact run_10 b ins vs now w hr hk hm
    · exact run_11 b ins vs now w hr hk hm
  · have e : runB b ins now = (b, mayB b ins now) := if_neg hm
    rw [e]
    exact run_bad b ins vs now w hr hm
end Go.Proofs.Ytjanofopmmndoaa

