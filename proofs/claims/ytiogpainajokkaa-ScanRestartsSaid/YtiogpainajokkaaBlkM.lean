/- Blocks as Lean data: which are right, and what a run makes of one. Plain Lean, no program in sight. -/
import Derived.Test.YtiogpainajokkaaBaseM
import Derived.Laws.ResultCell
namespace Go.Proofs.Ytiogpainajokkaa
open Go.RowKit
structure GBlock where
  kind : Int
  w0 : Bool
  w1 : Bool
  ran : Bool
  going : Bool
  frm : Int
  et : Int
  cv : Int
  q : Bool
  p : Bool
def encBlk (b : GBlock) : List Value := [.int .u8 b.kind, .bool b.w0, .bool b.w1, .bool b.ran, .bool b.going, .int .i64 b.frm, .int .i64 b.et, .int .i64 b.cv, .bool b.q, .bool b.p]
def vBlk (b : GBlock) : Value := .agg #[.int .u8 b.kind, .bool b.w0, .bool b.w1, .bool b.ran, .bool b.going, .int .i64 b.frm, .int .i64 b.et, .int .i64 b.cv, .bool b.q, .bool b.p]
theorem encBlk_len (b : GBlock) : (encBlk b).length = 10 := rfl
structure GBlock.Wf (b : GBlock) : Prop where
  kind : 0 ≤ b.kind ∧ b.kind ≤ 255
  frm : -9223372036854775808 ≤ b.frm ∧ b.frm ≤ 9223372036854775807
  et : -9223372036854775808 ≤ b.et ∧ b.et ≤ 9223372036854775807
  cv : -9223372036854775808 ≤ b.cv ∧ b.cv ≤ 9223372036854775807
/-- The bounds of the numbers of a right block. -/
def bndB (b : GBlock) : Bool := decide (0 ≤ b.frm) && decide (b.frm ≤ 1125899906842624) && decide (0 ≤ b.et) && decide (b.et ≤ 1125899906842624) && decide (-2147483648 ≤ b.cv) && decide (b.cv ≤ 2147483647)
/-- What a kind may hold beside its kind and its output. -/
def useB (b : GBlock) : Bool :=
  if b.kind = 1 ∨ b.kind = 2 ∨ b.kind = 3 then !b.w1 && !b.ran && (b.going || decide (b.frm = 0)) && decide (b.cv = 0) && !b.p
  else if b.kind = 4 ∨ b.kind = 5 then !b.w1 && !b.ran && !b.going && decide (b.frm = 0) && decide (b.et = 0) && !b.p
  else if b.kind = 6 then !b.ran && !b.going && decide (b.frm = 0) && decide (b.et = 0)
  else if b.kind = 7 ∨ b.kind = 8 then !b.w1 && !b.ran && !b.going && decide (b.frm = 0) && decide (b.et = 0) && decide (b.cv = 0) && !b.p
  else if b.kind = 9 ∨ b.kind = 10 then !b.w0 && !b.w1 && !b.ran && !b.going && decide (b.frm = 0) && decide (b.et = 0) && decide (b.cv = 0) && !b.p
  else if b.kind = 11 then !b.going && decide (b.frm = 0) && decide (b.et = 0) && !b.p
  else false
def rightBlk (b : GBlock) : Bool := bndB b && useB b
end Go.Proofs.Ytiogpainajokkaa

namespace Go.Proofs.Ytiogpainajokkaa
open Go.RowKit
theorem row10 {w : World} {g : Nat} {v0 v1 v2 v3 v4 v5 v6 v7 v8 v9 : Value} {T : TypeId} (h : w.heap[g]? = some (.cells #[v0, v1, v2, v3, v4, v5, v6, v7, v8, v9] T (0, 0))) : w.cell? ⟨g, 0, none⟩ = some v0 ∧ w.cell? ⟨g, 1, none⟩ = some v1 ∧ w.cell? ⟨g, 2, none⟩ = some v2 ∧ w.cell? ⟨g, 3, none⟩ = some v3 ∧ w.cell? ⟨g, 4, none⟩ = some v4 ∧ w.cell? ⟨g, 5, none⟩ = some v5 ∧ w.cell? ⟨g, 6, none⟩ = some v6 ∧ w.cell? ⟨g, 7, none⟩ = some v7 ∧ w.cell? ⟨g, 8, none⟩ = some v8 ∧ w.cell? ⟨g, 9, none⟩ = some v9 ∧ w.frozen? ⟨g, 0, none⟩ = false ∧ w.frozen? ⟨g, 1, none⟩ = false ∧ w.frozen? ⟨g, 2, none⟩ = false ∧ w.frozen? ⟨g, 3, none⟩ = false ∧ w.frozen? ⟨g, 4, none⟩ = false ∧ w.frozen? ⟨g, 5, none⟩ = false ∧ w.frozen? ⟨g, 6, none⟩ = false ∧ w.frozen? ⟨g, 7, none⟩ = false ∧ w.frozen? ⟨g, 8, none⟩ = false ∧ w.frozen? ⟨g, 9, none⟩ = false :=
  ⟨cell_of_row w g 0 _ T _ h, cell_of_row w g 1 _ T _ h, cell_of_row w g 2 _ T _ h, cell_of_row w g 3 _ T _ h, cell_of_row w g 4 _ T _ h, cell_of_row w g 5 _ T _ h, cell_of_row w g 6 _ T _ h, cell_of_row w g 7 _ T _ h, cell_of_row w g 8 _ T _ h, cell_of_row w g 9 _ T _ h, frozen_of_row w g 0 _ T h, frozen_of_row w g 1 _ T h, frozen_of_row w g 2 _ T h, frozen_of_row w g 3 _ T h, frozen_of_row w g 4 _ T h, frozen_of_row w g 5 _ T h, frozen_of_row w g 6 _ T h, frozen_of_row w g 7 _ T h, frozen_of_row w g 8 _ T h, frozen_of_row w g 9 _ T h⟩
theorem set10_0 {w : World} {g : Nat} {v0 v1 v2 v3 v4 v5 v6 v7 v8 v9 u : Value} {T : TypeId} (h : w.heap[g]? = some (.cells #[v0, v1, v2, v3, v4, v5, v6, v7, v8, v9] T (0, 0))) : (w.setCell ⟨g, 0, none⟩ u).heap[g]? = some (.cells #[u, v1, v2, v3, v4, v5, v6, v7, v8, v9] T (0, 0)) := heap_setCell_same w g 0 _ T u h
theorem set10_1 {w : World} {g : Nat} {v0 v1 v2 v3 v4 v5 v6 v7 v8 v9 u : Value} {T : TypeId} (h : w.heap[g]? = some (.cells #[v0, v1, v2, v3, v4, v5, v6, v7, v8, v9] T (0, 0))) : (w.setCell ⟨g, 1, none⟩ u).heap[g]? = some (.cells #[v0, u, v2, v3, v4, v5, v6, v7, v8, v9] T (0, 0)) := heap_setCell_same w g 1 _ T u h
theorem set10_2 {w : World} {g : Nat} {v0 v1 v2 v3 v4 v5 v6 v7 v8 v9 u : Value} {T : TypeId} (h : w.heap[g]? = some (.cells #[v0, v1, v2, v3, v4, v5, v6, v7, v8, v9] T (0, 0))) : (w.setCell ⟨g, 2, none⟩ u).heap[g]? = some (.cells #[v0, v1, u, v3, v4, v5, v6, v7, v8, v9] T (0, 0)) := heap_setCell_same w g 2 _ T u h
theorem set10_3 {w : World} {g : Nat} {v0 v1 v2 v3 v4 v5 v6 v7 v8 v9 u : Value} {T : TypeId} (h : w.heap[g]? = some (.cells #[v0, v1, v2, v3, v4, v5, v6, v7, v8, v9] T (0, 0))) : (w.setCell ⟨g, 3, none⟩ u).heap[g]? = some (.cells #[v0, v1, v2, u, v4, v5, v6, v7, v8, v9] T (0, 0)) := heap_setCell_same w g 3 _ T u h
theorem set10_4 {w : World} {g : Nat} {v0 v1 v2 v3 v4 v5 v6 v7 v8 v9 u : Value} {T : TypeId} (h : w.heap[g]? = some (.cells #[v0, v1, v2, v3, v4, v5, v6, v7, v8, v9] T (0, 0))) : (w.setCell ⟨g, 4, none⟩ u).heap[g]? = some (.cells #[v0, v1, v2, v3, u, v5, v6, v7, v8, v9] T (0, 0)) := heap_setCell_same w g 4 _ T u h
theorem set10_5 {w : World} {g : Nat} {v0 v1 v2 v3 v4 v5 v6 v7 v8 v9 u : Value} {T : TypeId} (h : w.heap[g]? = some (.cells #[v0, v1, v2, v3, v4, v5, v6, v7, v8, v9] T (0, 0))) : (w.setCell ⟨g, 5, none⟩ u).heap[g]? = some (.cells #[v0, v1, v2, v3, v4, u, v6, v7, v8, v9] T (0, 0)) := heap_setCell_same w g 5 _ T u h
theorem set10_6 {w : World} {g : Nat} {v0 v1 v2 v3 v4 v5 v6 v7 v8 v9 u : Value} {T : TypeId} (h : w.heap[g]? = some (.cells #[v0, v1, v2, v3, v4, v5, v6, v7, v8, v9] T (0, 0))) : (w.setCell ⟨g, 6, none⟩ u).heap[g]? = some (.cells #[v0, v1, v2, v3, v4, v5, u, v7, v8, v9] T (0, 0)) := heap_setCell_same w g 6 _ T u h
theorem set10_7 {w : World} {g : Nat} {v0 v1 v2 v3 v4 v5 v6 v7 v8 v9 u : Value} {T : TypeId} (h : w.heap[g]? = some (.cells #[v0, v1, v2, v3, v4, v5, v6, v7, v8, v9] T (0, 0))) : (w.setCell ⟨g, 7, none⟩ u).heap[g]? = some (.cells #[v0, v1, v2, v3, v4, v5, v6, u, v8, v9] T (0, 0)) := heap_setCell_same w g 7 _ T u h
theorem set10_8 {w : World} {g : Nat} {v0 v1 v2 v3 v4 v5 v6 v7 v8 v9 u : Value} {T : TypeId} (h : w.heap[g]? = some (.cells #[v0, v1, v2, v3, v4, v5, v6, v7, v8, v9] T (0, 0))) : (w.setCell ⟨g, 8, none⟩ u).heap[g]? = some (.cells #[v0, v1, v2, v3, v4, v5, v6, v7, u, v9] T (0, 0)) := heap_setCell_same w g 8 _ T u h
theorem set10_9 {w : World} {g : Nat} {v0 v1 v2 v3 v4 v5 v6 v7 v8 v9 u : Value} {T : TypeId} (h : w.heap[g]? = some (.cells #[v0, v1, v2, v3, v4, v5, v6, v7, v8, v9] T (0, 0))) : (w.setCell ⟨g, 9, none⟩ u).heap[g]? = some (.cells #[v0, v1, v2, v3, v4, v5, v6, v7, v8, u] T (0, 0)) := heap_setCell_same w g 9 _ T u h
theorem row5 {w : World} {g : Nat} {v0 v1 v2 v3 v4 : Value} {T : TypeId} (h : w.heap[g]? = some (.cells #[v0, v1, v2, v3, v4] T (0, 0))) : w.cell? ⟨g, 0, none⟩ = some v0 ∧ w.cell? ⟨g, 1, none⟩ = some v1 ∧ w.cell? ⟨g, 2, none⟩ = some v2 ∧ w.cell? ⟨g, 3, none⟩ = some v3 ∧ w.cell? ⟨g, 4, none⟩ = some v4 ∧ w.frozen? ⟨g, 0, none⟩ = false ∧ w.frozen? ⟨g, 1, none⟩ = false ∧ w.frozen? ⟨g, 2, none⟩ = false ∧ w.frozen? ⟨g, 3, none⟩ = false ∧ w.frozen? ⟨g, 4, none⟩ = false :=
  ⟨cell_of_row w g 0 _ T _ h, cell_of_row w g 1 _ T _ h, cell_of_row w g 2 _ T _ h, cell_of_row w g 3 _ T _ h, cell_of_row w g 4 _ T _ h, frozen_of_row w g 0 _ T h, frozen_of_row w g 1 _ T h, frozen_of_row w g 2 _ T h, frozen_of_row w g 3 _ T h, frozen_of_row w g 4 _ T h⟩
theorem set5_0 {w : World} {g : Nat} {v0 v1 v2 v3 v4 u : Value} {T : TypeId} (h : w.heap[g]? = some (.cells #[v0, v1, v2, v3, v4] T (0, 0))) : (w.setCell ⟨g, 0, none⟩ u).heap[g]? = some (.cells #[u, v1, v2, v3, v4] T (0, 0)) := heap_setCell_same w g 0 _ T u h
theorem set5_1 {w : World} {g : Nat} {v0 v1 v2 v3 v4 u : Value} {T : TypeId} (h : w.heap[g]? = some (.cells #[v0, v1, v2, v3, v4] T (0, 0))) : (w.setCell ⟨g, 1, none⟩ u).heap[g]? = some (.cells #[v0, u, v2, v3, v4] T (0, 0)) := heap_setCell_same w g 1 _ T u h
theorem set5_2 {w : World} {g : Nat} {v0 v1 v2 v3 v4 u : Value} {T : TypeId} (h : w.heap[g]? = some (.cells #[v0, v1, v2, v3, v4] T (0, 0))) : (w.setCell ⟨g, 2, none⟩ u).heap[g]? = some (.cells #[v0, v1, u, v3, v4] T (0, 0)) := heap_setCell_same w g 2 _ T u h
theorem set5_3 {w : World} {g : Nat} {v0 v1 v2 v3 v4 u : Value} {T : TypeId} (h : w.heap[g]? = some (.cells #[v0, v1, v2, v3, v4] T (0, 0))) : (w.setCell ⟨g, 3, none⟩ u).heap[g]? = some (.cells #[v0, v1, v2, u, v4] T (0, 0)) := heap_setCell_same w g 3 _ T u h
theorem set5_4 {w : World} {g : Nat} {v0 v1 v2 v3 v4 u : Value} {T : TypeId} (h : w.heap[g]? = some (.cells #[v0, v1, v2, v3, v4] T (0, 0))) : (w.setCell ⟨g, 4, none⟩ u).heap[g]? = some (.cells #[v0, v1, v2, v3, u] T (0, 0)) := heap_setCell_same w g 4 _ T u h
theorem grown_set (w : World) (g j : Nat) (u : Value) : w.grownBy (w.setCell ⟨g, j, none⟩ u) (some g) :=
  ⟨rfl, rfl, rfl, by simp, fun i _ hr => Below.heap_setCell w ⟨g, j, none⟩ u i (fun e => hr (by rw [e]))⟩
theorem grown_drew (w : World) (row : Option Nat) : w.grownBy w.drew row := ⟨rfl, rfl, rfl, Nat.le_refl _, fun _ _ _ => rfl⟩
theorem grown_drewN (w : World) (n : Nat) (row : Option Nat) : w.grownBy (w.drewN n) row := ⟨rfl, rfl, rfl, Nat.le_refl _, fun _ _ _ => rfl⟩
theorem grown_refl (w : World) (row : Option Nat) : w.grownBy w row := ⟨rfl, rfl, rfl, Nat.le_refl _, fun _ _ _ => rfl⟩
theorem grown_Below {B : Nat} {w w' : World} {g : Nat} (h : w.grownBy w' (some g)) (h1 : B ≤ w.heap.size) (h2 : B ≤ g) : Below B w w' := (Below.refl B w).grown h h1 (fun k hk => by cases hk; exact h2)
theorem grown_other {w w' : World} {g i : Nat} {o : Obj} (h : w.grownBy w' (some g)) (hi : w.heap[i]? = some o) (hne : i ≠ g) : w'.heap[i]? = some o := by
  rw [h.block i (Array.getElem?_eq_some_iff.1 hi).1 (fun e => hne (by cases e; rfl))]; exact hi
theorem store10 {w : World} {g : Nat} {v0 v1 v2 v3 v4 v5 v6 v7 v8 v9 : Value} {T : TypeId} (h : w.heap[g]? = some (.cells #[v0, v1, v2, v3, v4, v5, v6, v7, v8, v9] T (0, 0))) (u0 u1 u2 u3 u4 u5 u6 u7 u8 u9 : Value) : ∃ w2, ((((((((((w.setCell ⟨g, 0, none⟩ u0).setCell ⟨g, 1, none⟩ u1).setCell ⟨g, 2, none⟩ u2).setCell ⟨g, 3, none⟩ u3).setCell ⟨g, 4, none⟩ u4).setCell ⟨g, 5, none⟩ u5).setCell ⟨g, 6, none⟩ u6).setCell ⟨g, 7, none⟩ u7).setCell ⟨g, 8, none⟩ u8).setCell ⟨g, 9, none⟩ u9) = w2 ∧ w2.heap[g]? = some (.cells #[u0, u1, u2, u3, u4, u5, u6, u7, u8, u9] T (0, 0)) ∧ w.grownBy w2 (some g) :=
  ⟨_, rfl, (set10_9 (set10_8 (set10_7 (set10_6 (set10_5 (set10_4 (set10_3 (set10_2 (set10_1 (set10_0 h)))))))))), grown_trans (grown_trans (grown_trans (grown_trans (grown_trans (grown_trans (grown_trans (grown_trans (grown_trans (grown_set _ _ _ _) (grown_set _ _ _ _)) (grown_set _ _ _ _)) (grown_set _ _ _ _)) (grown_set _ _ _ _)) (grown_set _ _ _ _)) (grown_set _ _ _ _)) (grown_set _ _ _ _)) (grown_set _ _ _ _)) (grown_set _ _ _ _)⟩
theorem res_cell_tmp {P : Program} {fn : Func} {p u : Tmp} {ty : TypeId} (h : fn.results = #[.cell p ty, .tmp u]) (tmps : Array Value) (w : World) (g : Nat) {t : TypeId} {cs : Array Value} {fr : Nat × Nat} {d : TypeDesc}
    (hp : tmps.getD p undef = .pointer (some ⟨g, 0, none⟩)) (hg : w.heap[g]? = some (.cells cs t fr))
    (hu : P.underlying ty = some d) (hd : (match d with | .struct _ | .array _ _ => true | _ => false) = true) (hi : (P.info? ty).map (·.size) = some cs.size) :
    (results fn tmps).run P w = .ok (.tuple #[.agg cs, tmps.getD u undef]) w := by
  rw [results_cell_tmp h, hp]
  simp [asAddr, run_loadVar_row w g t ty cs fr d hg hu hd hi, Result.andThen]
end Go.Proofs.Ytiogpainajokkaa

namespace Go.Proofs.Ytiogpainajokkaa
open Go.RowKit
theorem Try.sizeBlk : (Try.prog.info? 67).map (·.size) = some 10 := by kernel_rfl
def newB (k : Int) : GBlock := ⟨k, false, false, false, false, 0, 0, 0, false, false⟩
theorem pinsIn_pos {k : Int} (h : 1 ≤ k) (h' : k ≤ 11) : 0 < (pinsIn k).length := by
  rcases (by omega : k = 1 ∨ k = 2 ∨ k = 3 ∨ k = 4 ∨ k = 5 ∨ k = 6 ∨ k = 7 ∨ k = 8 ∨ k = 9 ∨ k = 10 ∨ k = 11) with rfl | rfl | rfl | rfl | rfl | rfl | rfl | rfl | rfl | rfl | rfl <;> decide
theorem pinsIn_none {k : Int} (h : k < 1 ∨ 11 < k) : pinsIn k = [] := by
  unfold pinsIn pinStr
  rw [if_neg (by omega), if_neg (by omega), if_neg (by omega), if_neg (by omega), if_neg (by omega), if_neg (by omega)]
  rfl
set_option maxRecDepth 100000 in
set_option maxHeartbeats 400000 in
theorem new_any (k : Int) (hk : 1 ≤ k) (hk' : k ≤ 11) (w : World) : Calls Try.prog 84 #[.int .u8 k] w fun e w' => e = .returned (.tuple #[vBlk (newB k), .int .i64 0]) ∧ Below w.heap.size w w' := by
  go_enter Try.func84, Try.ntmps84
  go_wp2_with fail
  refine (pins_any _ _).mono ?_
  rintro e w1 ⟨v1, v2, rfl, ho1, ho2, hb⟩
  obtain ⟨A, c, rfl⟩ := ho1.slice2
  obtain ⟨h1, h2, h3⟩ := one_block w (Obj.cells #[Value.int IntKind.u8 0, Value.bool false, Value.bool false, Value.bool false, Value.bool false, Value.int IntKind.i64 0, Value.int IntKind.i64 0, Value.int IntKind.i64 0, Value.bool false, Value.bool false] 67)
  have hh := hb.block w.heap.size (by rw [h3]; omega)
  rw [h2] at hh
  have HB := Fact.mk (h1.trans (hb.mono h1.size))
  obtain ⟨c0, c1, c2, c3, c4, c5, c6, c7, c8, c9, f0, f1, f2, f3, f4, f5, f6, f7, f8, f9⟩ := row10 hh
  have hn : (((pinsIn k).length : Int) == 0) = false := by have := pinsIn_pos hk hk'; exact beq_eq_false_iff_ne.2 (by omega)
  have HH := Fact.mk hh
  clear ho1 ho2 h1 h2 h3 hh hb
  go_wp2
  clear c0 c1 c2 c3 c4 c5 c6 c7 c8 c9 f0 f1 f2 f3 f4 f5 f6 f7 f8 f9
  obtain ⟨w2, e2, h2, g2⟩ := store10 HH.out (.int .u8 k) (.bool false) (.bool false) (.bool false) (.bool false) (.int .i64 0) (.int .i64 0) (.int .i64 0) (.bool false) (.bool false)
  rw [e2]
  exact bodyPost_ret (res_cell_tmp Try.results84 _ w2 w.heap.size rfl h2 Try.underlying67 rfl Try.sizeBlk) rfl ⟨rfl, HB.out.trans (grown_Below g2 HB.out.size (Nat.le_refl _))⟩
set_option maxRecDepth 100000 in
set_option maxHeartbeats 400000 in
theorem new_no (k : Int) (hk : k < 1 ∨ 11 < k) (w : World) : Calls Try.prog 84 #[.int .u8 k] w fun e w' => e = .returned (.tuple #[vBlk (newB 0), .int .i64 2]) ∧ Below w.heap.size w w' := by
  go_enter Try.func84, Try.ntmps84
  go_wp2_with fail
  refine (pins_any _ _).mono ?_
  rintro e w1 ⟨v1, v2, rfl, ho1, ho2, hb⟩
  rw [pinsIn_none hk] at ho1
  obtain ⟨A, c, rfl⟩ := ho1.slice2
  obtain ⟨h1, h2, h3⟩ := one_block w (Obj.cells #[Value.int IntKind.u8 0, Value.bool false, Value.bool false, Value.bool false, Value.bool false, Value.int IntKind.i64 0, Value.int IntKind.i64 0, Value.int IntKind.i64 0, Value.bool false, Value.bool false] 67)
  have hh := hb.block w.heap.size (by rw [h3]; omega)
  rw [h2] at hh
  have HB := Fact.mk (h1.trans (hb.mono h1.size))
  obtain ⟨c0, c1, c2, c3, c4, c5, c6, c7, c8, c9, f0, f1, f2, f3, f4, f5, f6, f7, f8, f9⟩ := row10 hh
  have HH := Fact.mk hh
  have HK := Fact.mk hk
  clear ho1 ho2 h1 h2 h3 hh hb hk
  go_wp2
  clear c0 c1 c2 c3 c4 c5 c6 c7 c8 c9 f0 f1 f2 f3 f4 f5 f6 f7 f8 f9
  obtain ⟨w2, e2, h2, g2⟩ := store10 HH.out (.int .u8 0) (.bool false) (.bool false) (.bool false) (.bool false) (.int .i64 0) (.int .i64 0) (.int .i64 0) (.bool false) (.bool false)
  rw [e2]
  exact bodyPost_ret (res_cell_tmp Try.results84 _ w2 w.heap.size rfl h2 Try.underlying67 rfl Try.sizeBlk) rfl ⟨rfl, HB.out.trans (grown_Below g2 HB.out.size (Nat.le_refl _))⟩
end Go.Proofs.Ytiogpainajokkaa

namespace Go.Proofs.Ytiogpainajokkaa
open Go.RowKit
def oneI64 (x : Int) : List Value := [.int .i64 x]
theorem oneI64_len (x : Int) : (oneI64 x).length = 1 := rfl
def onB (ins : List Int) (i : Nat) : Bool := decide (ins.getD i 0 = 1)
def sinceB (b : GBlock) (now : Int) : Int := if b.going = true then b.frm else now
def goneB (b : GBlock) (now : Int) : Int := max (now - sinceB b now) 0
def goB (b : GBlock) (now pt : Int) : GBlock := { b with going := true, frm := sinceB b now, et := min (goneB b now) pt }
def overB (b : GBlock) (now pt : Int) : Bool := decide (pt ≤ goneB b now)
def stopB (b : GBlock) : GBlock := { b with going := false, frm := 0 }
/-- A runner at R, its block at B. -/
structure RunSt (w : World) (R B : Nat) (ins : List Int) (now : Int) (rise fall : Bool) (b : GBlock) : Prop where
  run : ∃ vs, Rd oneI64 1 w vs ins ∧ vs.ownBlock ≠ some B ∧ w.heap[R]? = some (.cells #[.pointer (some ⟨B, 0, none⟩), vs, .int .i64 now, .bool rise, .bool fall] 237 (0, 0))
  blk : w.heap[B]? = some (.cells #[.int .u8 b.kind, .bool b.w0, .bool b.w1, .bool b.ran, .bool b.going, .int .i64 b.frm, .int .i64 b.et, .int .i64 b.cv, .bool b.q, .bool b.p] 67 (0, 0))
  ne : R ≠ B
theorem Rd.grown {α : Type} {enc : α → List Value} {k : Nat} {w w' : World} {v : Value} {xs : List α} {g : Nat} (h : Rd enc k w v xs) (hg : w.grownBy w' (some g)) (hne : v.ownBlock ≠ some g) : Rd enc k w' v xs := by
  obtain ⟨h0, A, c, h1, h2, h4, h3⟩ := h
  refine ⟨h0, A, c, h1, h2, h4, fun hp => ?_⟩
  obtain ⟨b, off, e, hc⟩ := h3 hp
  refine ⟨b, off, e, fun j hj i u hu => hg.cell (hc j hj i u hu) (fun e2 => hne ?_)⟩
  subst h1 e
  exact e2
theorem RunSt.next {w w' : World} {R B : Nat} {ins : List Int} {now : Int} {rise fall : Bool} {b b' : GBlock} (h : RunSt w R B ins now rise fall b) (hg : w.grownBy w' (some B))
    (hb : w'.heap[B]? = some (.cells #[.int .u8 b'.kind, .bool b'.w0, .bool b'.w1, .bool b'.ran, .bool b'.going, .int .i64 b'.frm, .int .i64 b'.et, .int .i64 b'.cv, .bool b'.q, .bool b'.p] 67 (0, 0))) : RunSt w' R B ins now rise fall b' := by
  obtain ⟨⟨vs, h1, h2, h3⟩, _, h5⟩ := h
  exact ⟨⟨vs, h1.grown hg h2, h2, grown_other hg h3 h5⟩, hb, h5⟩
theorem Rd.at64 {w : World} {v : Value} {xs : List Int} (h : Rd oneI64 1 w v xs) (i : Nat) (hi : i < xs.length) : ∃ b off c, v = .slice (some ⟨b, off, none⟩) xs.length c ∧ w.cell? ⟨b, off + i, none⟩ = some (.int .i64 (xs.getD i 0)) := by
  obtain ⟨h0, A, c, rfl, h2, h4, h3⟩ := h
  obtain ⟨b, off, rfl, hc⟩ := h3 (by omega)
  refine ⟨b, off, c, rfl, ?_⟩
  have := hc i hi 0 (.int .i64 xs[i]) rfl
  rw [show off + i * 1 + 0 = off + i by omega] at this
  rw [this, List.getD_eq_getElem?_getD, List.getElem?_eq_getElem hi]
  rfl
/-- What a method of a runner makes: the block, nothing else. -/
def RunPost (w : World) (R B : Nat) (ins : List Int) (now : Int) (rise fall : Bool) (b' : GBlock) (v : Value) (e : Ending) (w' : World) : Prop := e = .returned v ∧ RunSt w' R B ins now rise fall b' ∧ w.grownBy w' (some B)
end Go.Proofs.Ytiogpainajokkaa

