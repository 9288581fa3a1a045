/- Contract of blocks.New. -/
import Derived.Test.YtjanofopmmndoaaBlk
import Derived.Test.YtjanofopmmndoaaRows10
namespace Go.Proofs.Ytjanofopmmndoaa
open Go.RowKit
theorem Try.sizeBlk : (Try.prog.info? 25).map (·.size) = some 10 := by kernel_rfl
def newB (k : Int) : GBlock := ⟨k, false, false, false, false, 0, 0, 0, false, false⟩
theorem pinsIn_pos {k : Int} (h : 1 ≤ k) (h' : k ≤ 11) : 0 < (pinsIn k).length := by
  rcases (by omega : k = 1 ∨ k = 2 ∨ k = 3 ∨ k = 4 ∨ k = 5 ∨ k = 6 ∨ k = 7 ∨ k = 8 ∨ k = 9 ∨ k = 10 ∨ k = 11) with rfl | rfl | rfl | rfl | rfl | rfl | rfl | rfl | rfl | rfl | rfl <;> decide
theorem pinsIn_none {k : Int} (h : k < 1 ∨ 11 < k) : pinsIn k = [] := by
  unfold pinsIn pinStr
  rw [if_neg (by omega), if_neg (by omega), if_neg (by omega), if_neg (by omega), if_neg (by omega), if_neg (by omega)]
  rfl
set_option maxRecDepth 100000 in
set_option maxHeartbeats 400000 in
theorem new_any (k : Int) (hk : 1 ≤ k) (hk' : k ≤ 11) (w : World) : Calls Try.prog 11 #[.int .u8 k] w fun e w' => e = .returned (.tuple #[vBlk (newB k), .int .i64 0]) ∧ Below w.heap.size w w' := by
  go_enter Try.func11, Try.ntmps11
  go_wp2_with fail
  refine (pins_any _ _).mono ?_
  rintro e w1 ⟨v1, v2, rfl, ho1, ho2, hb⟩
  obtain ⟨A, c, rfl⟩ := ho1.slice2
  obtain ⟨h1, h2, h3⟩ := one_block w (Obj.cells #[Value.int IntKind.u8 0, Value.bool false, Value.bool false, Value.bool false, Value.bool false, Value.int IntKind.i64 0, Value.int IntKind.i64 0, Value.int IntKind.i64 0, Value.bool false, Value.bool false] 25)
  have hh := hb.block w.heap.size (by rw [h3]; omega)
  rw [h2] at hh
  have HB := Fact.mk (h1.trans (hb.mono h1.size))
  obtain ⟨c0, c1, c2, c3, c4, c5, c6, c7, c8, c9, f0, f1, f2, f3, f4, f5, f6, f7, f8, f9⟩ := row10 hh
  have hn : (((pinsIn k).length : Int) == 0) = false := by have := pinsIn_pos hk hk'; exact beq_eq_false_iff_ne.2 (by omega)
  have HH := Fact.mk hh
  clear ho1 ho2 h1 h2 h3 hh hb
  go_wp2
  clear c0 c1 c2 c3 c4 c5 c6 c7 c8 c9 f0 f1 f2 f3 f4 f5 f6 f7 f8 f9
  obtain ⟨w2, e2, h2, g2⟩ := store10 HH.out (.int .u8 k) (.bool false) (.bool false) (.bool false) (.bool false) (.int .i64 0) (.int .i64 0) (.int .i64 0) (.bool false) (.bool false)
  rw [e2]
  exact bodyPost_ret (res_cell_tmp Try.results11 _ w2 w.heap.size rfl h2 Try.underlying25 rfl Try.sizeBlk) rfl ⟨rfl, HB.out.trans (grown_Below g2 HB.out.size (Nat.le_refl _))⟩
set_option maxRecDepth 100000 in
set_option maxHeartbeats 400000 in
theorem new_no (k : Int) (hk : k < 1 ∨ 11 < k) (w : World) : Calls Try.prog 11 #[.int .u8 k] w fun e w' => e = .returned (.tuple #[vBlk (newB 0), .int .i64 2]) ∧ Below w.heap.size w w' := by
  go_enter Try.func11, Try.ntmps11
  go_wp2_with fail
  refine (pins_any _ _).mono ?_
  rintro e w1 ⟨v1, v2, rfl, ho1, ho2, hb⟩
  rw [pinsIn_none hk] at ho1
  obtain ⟨A, c, rfl⟩ := ho1.slice2
  obtain ⟨h1, h2, h3⟩ := one_block w (Obj.cells #[Value.int IntKind.u8 0, Value.bool false, Value.bool false, Value.bool false, Value.bool false, Value.int IntKind.i64 0, Value.int IntKind.i64 0, Value.int IntKind.i64 0, Value.bool false, Value.bool false] 25)
  have hh := hb.block w.heap.size (by rw [h3]; omega)
  rw [h2] at hh
  have HB := Fact.mk (h1.trans (hb.mono h1.size))
  obtain ⟨c0, c1, c2, c3, c4, c5, c6, c7, c8, c9, f0, f1, f2, f3, f4, f5, f6, f7, f8, f9⟩ := row10 hh
  have HH := Fact.mk hh
  have HK := Fact.mk hk
  clear ho1 ho2 h1 h2 h3 hh hb hk
  go_wp2
  clear c0 c1 c2 c3 c4 c5 c6 c7 c8 c9 f0 f1 f2 f3 f4 f5 f6 f7 f8 f9
  obtain ⟨w2, e2, h2, g2⟩ := store10 HH.out (.int .u8 0) (.bool false) (.bool false) (.bool false) (.bool false) (.int .i64 0) (.int .i64 0) (.int .i64 0) (.bool false) (.bool false)
  rw [e2]
  exact bodyPost_ret (res_cell_tmp Try.results11 _ w2 w.heap.size rfl h2 Try.underlying25 rfl Try.sizeBlk) rfl ⟨rfl, HB.out.trans (grown_Below g2 HB.out.size (Nat.le_refl _))⟩
end Go.Proofs.Ytjanofopmmndoaa
