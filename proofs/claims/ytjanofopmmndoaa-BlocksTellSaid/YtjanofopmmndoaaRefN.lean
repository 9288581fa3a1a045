/- Contracts of blockhouseref15.Run and blockhouseref15.New. -/
import Derived.Test.YtjanofopmmndoaaRefM3
import Derived.Test.YtjanofopmmndoaaRefM1
import Derived.Test.YtjanofopmmndoaaRefN4
import Derived.Test.YtjanofopmmndoaaRefN5
import Derived.Test.YtjanofopmmndoaaRefN6
import Derived.Test.YtjanofopmmndoaaRefM2
import Derived.Test.YtjanofopmmndoaaRefN11
namespace Go.Proofs.Ytjanofopmmndoaa
open Go.RowKit
theorem rrun_any (b : GBlock) (ins : List Int) (vs : Value) (now : Int) (w : World) (hr : Rd oneI64 1 w vs ins) : Calls Try.prog 19 #[vBlk b, vs, .int .i64 now] w fun e w' => e = .returned (.tuple #[vBlk (runB b ins now).1, .int .i64 (runB b ins now).2]) ∧ Below w.heap.size w w' := by
  by_cases hm : mayB b ins now = 0
  · have e : runB b ins now = (stepB b ins now, 0) := if_pos hm
    rw [e]
    rcases kind_cases (mayB_ok hm).1 with hk | hk | hk | hk | hk | hk | hk | hk | hk | hk | hk
    · exact rrun_1 b ins vs now w hr hk hm
    · exact rrun_2 b ins vs now w hr hk hm
    · exact rrun_3 b ins vs now w hr hk hm
    · exact rrun_4 b ins vs now w hr hk hm
    · exact rrun_5 b ins vs now w hr hk hm
    · exact rrun_6 b ins vs now w hr hk hm
    · exact rrun_7 b ins vs now w hr hk hm
    · exact rrun_8 b ins vs now w hr hk hm
    · exact rrun_9 b ins vs now w hr hk hm
    · exact rrun_10 b ins vs now w hr hk hm
    · exact rrun_11 b ins vs now w hr hk hm
  · have e : runB b ins now = (b, mayB b ins now) := if_neg hm
    rw [e]
    cases hR : rightBlk b with
    | false =>
      have e2 : mayB b ins now = 160 := by simp [mayB, hR]
      rw [e2]
      exact rrun_wrong b ins vs now w hr hR
    | true =>
      have e2 : mayB b ins now = 2 := by
        unfold mayB at hm ⊢
        rw [if_pos hR] at hm ⊢
        split at hm
        · exact absurd rfl hm
        · rename_i h; rw [if_neg h]
      rw [e2]
      exact rrun_no b ins vs now w hr hR e2
set_option maxRecDepth 100000 in
set_option maxHeartbeats 400000 in
theorem rnew_any (k : Int) (hk : 1 ≤ k) (hk' : k ≤ 11) (w : World) : Calls Try.prog 12 #[.int .u8 k] w fun e w' => e = .returned (.tuple #[vBlk (newB k), .int .i64 0]) ∧ Below w.heap.size w w' := by
  obtain ⟨h1, h2, -⟩ := one_block w (Obj.cells #[.int .u8 0, .bool false, .bool false, .bool false, .bool false, .int .i64 0, .int .i64 0, .int .i64 0, .bool false, .bool false] 25)
  obtain ⟨c0, c1, c2, c3, c4, c5, c6, c7, c8, c9, f0, f1, f2, f3, f4, f5, f6, f7, f8, f9⟩ := row10 h2
  have HB := Fact.mk h1
  have HH := Fact.mk h2
  clear h1 h2
  go_enter Try.func12, Try.ntmps12
  go_wp2
  clear c0 c1 c2 c3 c4 c5 c6 c7 c8 c9 f0 f1 f2 f3 f4 f5 f6 f7 f8 f9
  have hh : (w.alloc (Obj.cells #[.int .u8 k, .bool false, .bool false, .bool false, .bool false, .int .i64 0, .int .i64 0, .int .i64 0, .bool false, .bool false] 25)).heap[w.heap.size]? = _ := heap_alloc_new w _
  exact bodyPost_ret (res_cell_tmp Try.results12 _ _ w.heap.size rfl hh Try.underlying25 rfl Try.sizeBlk) rfl ⟨rfl, (one_block w _).1⟩
set_option maxRecDepth 100000 in
set_option maxHeartbeats 400000 in
theorem rnew_lo (k : Int) (hk : k < 1) (w : World) : Calls Try.prog 12 #[.int .u8 k] w fun e w' => e = .returned (.tuple #[vBlk (newB 0), .int .i64 2]) ∧ Below w.heap.size w w' := by
  obtain ⟨h1, h2, -⟩ := one_block w (Obj.cells #[.int .u8 0, .bool false, .bool false, .bool false, .bool false, .int .i64 0, .int .i64 0, .int .i64 0, .bool false, .bool false] 25)
  obtain ⟨c0, c1, c2, c3, c4, c5, c6, c7, c8, c9, f0, f1, f2, f3, f4, f5, f6, f7, f8, f9⟩ := row10 h2
  have HB := Fact.mk h1
  have HH := Fact.mk h2
  clear h1 h2
  go_enter Try.func12, Try.ntmps12
  go_wp2
  clear c0 c1 c2 c3 c4 c5 c6 c7 c8 c9 f0 f1 f2 f3 f4 f5 f6 f7 f8 f9
  have hh : (w.alloc (Obj.cells #[.int .u8 0, .bool false, .bool false, .bool false, .bool false, .int .i64 0, .int .i64 0, .int .i64 0, .bool false, .bool false] 25)).heap[w.heap.size]? = _ := heap_alloc_new w _
  exact bodyPost_ret (res_cell_tmp Try.results12 _ _ w.heap.size rfl hh Try.underlying25 rfl Try.sizeBlk) rfl ⟨rfl, (one_block w _).1⟩
set_option maxRecDepth 100000 in
set_option maxHeartbeats 400000 in
theorem rnew_hi (k : Int) (hk : 11 < k) (w : World) : Calls Try.prog 12 #[.int .u8 k] w fun e w' => e = .returned (.tuple #[vBlk (newB 0), .int .i64 2]) ∧ Below w.heap.size w w' := by
  obtain ⟨h1, h2, -⟩ := one_block w (Obj.cells #[.int .u8 0, .bool false, .bool false, .bool false, .bool false, .int .i64 0, .int .i64 0, .int .i64 0, .bool false, .bool false] 25)
  obtain ⟨c0, c1, c2, c3, c4, c5, c6, c7, c8, c9, f0, f1, f2, f3, f4, f5, f6, f7, f8, f9⟩ := row10 h2
  have HB := Fact.mk h1
  have HH := Fact.mk h2
  clear h1 h2
  go_enter Try.func12, Try.ntmps12
  go_wp2
  clear c0 c1 c2 c3 c4 c5 c6 c7 c8 c9 f0 f1 f2 f3 f4 f5 f6 f7 f8 f9
  have hh : (w.alloc (Obj.cells #[.int .u8 0, .bool false, .bool false, .bool false, .bool false, .int .i64 0, .int .i64 0, .int .i64 0, .bool false, .bool false] 25)).heap[w.heap.size]? = _ := heap_alloc_new w _
  exact bodyPost_ret (res_cell_tmp Try.results12 _ _ w.heap.size rfl hh Try.underlying25 rfl Try.sizeBlk) rfl ⟨rfl, (one_block w _).1⟩
end Go.Proofs.Ytjanofopmmndoaa

