/- Scan's last region (it draws its order). Printed by gen_sce.py. -/
import Derived.Test.YtiogpainajokkaaRnR
import Derived.Test.YtiogpainajokkaaOwnM
import Derived.IntWalk
namespace Go.Proofs.Ytiogpainajokkaa
open Go.RowKit
def sOps : Array Oper := #[{ dst := some 105, op := Go.Op.move (Go.Operand.tmp 15), type := 110, pos := "scan.go:231", after := #[], guard := none },
  { dst := some 106, op := Go.Op.nilCheck (Go.Operand.tmp 105), type := 0, pos := "scan.go:231", after := #[{ on := 0, ground := Go.Ground.data }], guard := none },
  { dst := some 107, op := Go.Op.fieldAddr 112 (Go.Operand.tmp 106) 1, type := 0, pos := "scan.go:231", after := #[{ on := 1, ground := Go.Ground.data }], guard := none },
  { dst := some 108, op := Go.Op.load 34 (Go.Operand.tmp 107), type := 34, pos := "scan.go:231", after := #[{ on := 2, ground := Go.Ground.data }], guard := none },
  { dst := some 109, op := Go.Op.load 26 (Go.Operand.tmp 4), type := 26, pos := "scan.go:231", after := #[], guard := none },
  { dst := some 110, op := Go.Op.move (Go.Operand.tmp 15), type := 110, pos := "scan.go:231", after := #[], guard := none },
  { dst := some 111, op := Go.Op.nilCheck (Go.Operand.tmp 110), type := 0, pos := "scan.go:231", after := #[{ on := 5, ground := Go.Ground.data }], guard := none },
  { dst := some 112, op := Go.Op.fieldAddr 112 (Go.Operand.tmp 111) 1, type := 0, pos := "scan.go:231", after := #[{ on := 6, ground := Go.Ground.data }], guard := none },
  { dst := some 113, op := Go.Op.load 34 (Go.Operand.tmp 112), type := 34, pos := "scan.go:231", after := #[{ on := 7, ground := Go.Ground.data }], guard := none },
  { dst := some 114, op := Go.Op.call { callee := Go.Callee.value (Go.Operand.func 49), args := #[Go.Operand.tmp 109, Go.Operand.tmp 113, Go.Operand.const (Go.Value.int Go.IntKind.u8 2)], argTypes := #[26, 34, 40] }, type := 31, pos := "scan.go:231", after := #[{ on := 4, ground := Go.Ground.data }, { on := 8, ground := Go.Ground.data }], guard := none },
  { dst := some 115, op := Go.Op.move (Go.Operand.tmp 15), type := 110, pos := "scan.go:231", after := #[{ on := 15, ground := Go.Ground.gcOnly Go.Departure.lateStores }], guard := none },
  { dst := some 116, op := Go.Op.nilCheck (Go.Operand.tmp 115), type := 0, pos := "scan.go:231", after := #[{ on := 10, ground := Go.Ground.data }, { on := 15, ground := Go.Ground.gcOnly Go.Departure.lateStores }], guard := none },
  { dst := some 117, op := Go.Op.fieldAddr 112 (Go.Operand.tmp 116) 4, type := 0, pos := "scan.go:231", after := #[{ on := 11, ground := Go.Ground.data }, { on := 15, ground := Go.Ground.gcOnly Go.Departure.lateStores }], guard := none },
  { dst := some 118, op := Go.Op.load 3 (Go.Operand.tmp 117), type := 3, pos := "scan.go:231", after := #[{ on := 12, ground := Go.Ground.data }, { on := 15, ground := Go.Ground.gcOnly Go.Departure.lateStores }], guard := none },
  { dst := none, op := Go.Op.store 34 (Go.Operand.tmp 8) (Go.Operand.tmp 108), type := 0, pos := "scan.go:231", after := #[{ on := 3, ground := Go.Ground.data }, { on := 9, ground := Go.Ground.chain }, { on := 0, ground := Go.Ground.phase }, { on := 1, ground := Go.Ground.phase }, { on := 2, ground := Go.Ground.phase }, { on := 3, ground := Go.Ground.phase }, { on := 4, ground := Go.Ground.textOnly Go.Departure.lateStores }, { on := 5, ground := Go.Ground.textOnly Go.Departure.lateStores }, { on := 6, ground := Go.Ground.textOnly Go.Departure.lateStores }, { on := 7, ground := Go.Ground.textOnly Go.Departure.lateStores }, { on := 8, ground := Go.Ground.textOnly Go.Departure.lateStores }, { on := 9, ground := Go.Ground.textOnly Go.Departure.lateStoresUnsure }, { on := 10, ground := Go.Ground.textOnly Go.Departure.lateStores }, { on := 11, ground := Go.Ground.textOnly Go.Departure.lateStores }, { on := 12, ground := Go.Ground.textOnly Go.Departure.lateStores }, { on := 13, ground := Go.Ground.textOnly Go.Departure.lateStores }], guard := none },
  { dst := some 9, op := Go.Op.assign (Go.Operand.tmp 114), type := 31, pos := "scan.go:231", after := #[{ on := 9, ground := Go.Ground.data }, { on := 14, ground := Go.Ground.chain }, { on := 0, ground := Go.Ground.phase }, { on := 1, ground := Go.Ground.phase }, { on := 2, ground := Go.Ground.phase }, { on := 3, ground := Go.Ground.phase }, { on := 4, ground := Go.Ground.phase }, { on := 5, ground := Go.Ground.phase }, { on := 6, ground := Go.Ground.phase }, { on := 7, ground := Go.Ground.phase }, { on := 8, ground := Go.Ground.phase }, { on := 9, ground := Go.Ground.phase }, { on := 10, ground := Go.Ground.textOnly Go.Departure.lateStores }, { on := 11, ground := Go.Ground.textOnly Go.Departure.lateStores }, { on := 12, ground := Go.Ground.textOnly Go.Departure.lateStores }, { on := 13, ground := Go.Ground.textOnly Go.Departure.lateStores }, { on := 14, ground := Go.Ground.phase }], guard := none },
  { dst := some 10, op := Go.Op.assign (Go.Operand.tmp 118), type := 3, pos := "scan.go:231", after := #[{ on := 13, ground := Go.Ground.data }, { on := 15, ground := Go.Ground.chain }, { on := 0, ground := Go.Ground.phase }, { on := 1, ground := Go.Ground.phase }, { on := 2, ground := Go.Ground.phase }, { on := 3, ground := Go.Ground.phase }, { on := 4, ground := Go.Ground.phase }, { on := 5, ground := Go.Ground.phase }, { on := 6, ground := Go.Ground.phase }, { on := 7, ground := Go.Ground.phase }, { on := 8, ground := Go.Ground.phase }, { on := 9, ground := Go.Ground.phase }, { on := 10, ground := Go.Ground.phase }, { on := 11, ground := Go.Ground.phase }, { on := 12, ground := Go.Ground.phase }, { on := 13, ground := Go.Ground.phase }, { on := 14, ground := Go.Ground.phase }, { on := 15, ground := Go.Ground.phase }], guard := none },
  { dst := some 11, op := Go.Op.assign (Go.Operand.const (Go.Value.int Go.IntKind.i64 0)), type := 35, pos := "scan.go:231", after := #[{ on := 16, ground := Go.Ground.chain }, { on := 0, ground := Go.Ground.phase }, { on := 1, ground := Go.Ground.phase }, { on := 2, ground := Go.Ground.phase }, { on := 3, ground := Go.Ground.phase }, { on := 4, ground := Go.Ground.phase }, { on := 5, ground := Go.Ground.phase }, { on := 6, ground := Go.Ground.phase }, { on := 7, ground := Go.Ground.phase }, { on := 8, ground := Go.Ground.phase }, { on := 9, ground := Go.Ground.phase }, { on := 10, ground := Go.Ground.phase }, { on := 11, ground := Go.Ground.phase }, { on := 12, ground := Go.Ground.phase }, { on := 13, ground := Go.Ground.phase }, { on := 14, ground := Go.Ground.phase }, { on := 15, ground := Go.Ground.phase }, { on := 16, ground := Go.Ground.phase }], guard := none }]
def sF (X : Nat) (nm : ByteArray) (vs bs is V B : Value) (st : Int) (O : Value) : List Claim := [(0, [], 105, .val (.pointer (some ⟨X, 0, none⟩))), (1, [], 106, .val (.pointer (some ⟨X, 0, none⟩))), (2, [], 107, .val (.pointer (some ⟨X, 4, none⟩))), (3, [], 108, .val (.agg #[V, B])), (4, [], 109, .val (.agg #[.string nm, vs, bs, is])), (5, [], 110, .val (.pointer (some ⟨X, 0, none⟩))), (6, [], 111, .val (.pointer (some ⟨X, 0, none⟩))), (7, [], 112, .val (.pointer (some ⟨X, 4, none⟩))), (8, [], 113, .val (.agg #[V, B])), (9, [], 114, .val (O)), (10, [], 115, .val (.pointer (some ⟨X, 0, none⟩))), (11, [], 116, .val (.pointer (some ⟨X, 0, none⟩))), (12, [], 117, .val (.pointer (some ⟨X, 8, none⟩))), (13, [], 118, .val (.int .i64 st)), (15, [], 9, .val (O)), (16, [], 10, .val (.int .i64 st)), (17, [], 11, .val (.int .i64 0))]
def sD : List (Nat × Nat) := [(1, 0), (2, 1), (3, 2), (6, 5), (7, 6), (8, 7), (9, 4), (9, 8), (11, 10), (12, 11), (13, 12), (14, 3), (15, 9), (16, 13), (14, 9)]
def sFix (X C R : Nat) : List (Nat × Value) := [(4, .pointer (some ⟨C, 0, none⟩)), (8, .pointer (some ⟨R, 0, none⟩)), (15, .pointer (some ⟨X, 0, none⟩))]
theorem sF_fine (X : Nat) (nm : ByteArray) (vs bs is V B : Value) (st : Int) (O : Value) : ∀ x ∈ sF X nm vs bs is V B st O, x.2.2.2.Fine := by
  intro x hx
  simp only [sF, List.mem_cons, List.not_mem_nil, or_false] at hx
  rcases hx with rfl | rfl | rfl | rfl | rfl | rfl | rfl | rfl | rfl | rfl | rfl | rfl | rfl | rfl | rfl | rfl | rfl
  all_goals trivial
structure SCtx (X C R : Nat) (nm : ByteArray) (vs bs is V B : Value) (st : Int) (outs : List Int) (w0 : World) : Prop where
  cV : w0.cell? ⟨X, 4, none⟩ = some V
  cB : w0.cell? ⟨X, 5, none⟩ = some B
  cS : w0.cell? ⟨X, 8, none⟩ = some (.int .i64 st)
  c0 : w0.cell? ⟨C, 0, none⟩ = some (.string nm)
  c1 : w0.cell? ⟨C, 1, none⟩ = some vs
  c2 : w0.cell? ⟨C, 2, none⟩ = some bs
  c3 : w0.cell? ⟨C, 3, none⟩ = some is
  row : ∃ u v, w0.heap[R]? = some (.cells #[u, v] 34 (0, 0))
  ne : X ≠ R
  sl : (∃ A n c, V = .slice A n c) ∧ ∃ A n c, B = .slice A n c
  run : ∀ W, Below w0.heap.size w0 W → Calls Try.prog 49 #[.agg #[.string nm, vs, bs, is], .agg #[V, B], .int .u8 2] W fun e w' => ∃ O, e = .returned O ∧ Own 2 1 oneI64 w' W.heap.size O outs ∧ Below W.heap.size W w'
def SI (X C R : Nat) (nm : ByteArray) (vs bs is V B : Value) (st : Int) (outs : List Int) (w0 : World) (bb : Nat → Bool) (a : Act) (w : World) : Prop := ∃ w1 O, RegSt (sF X nm vs bs is V B st O) sD (sFix X C R) w0.heap.size w0 119 bb a w1 ∧ (bb 9 = true → Own 2 1 oneI64 w1 w0.heap.size O outs) ∧ (bb 14 = false → w = w1) ∧ (bb 14 = true → w = (w1.setCell ⟨R, 0, none⟩ V).setCell ⟨R, 1, none⟩ B)
def SStep (X C R : Nat) (nm : ByteArray) (vs bs is V B : Value) (st : Int) (outs : List Int) (w0 : World) (Q : Exit → Act → World → Prop) (i : Nat) : Prop := ∀ bb a w, SI X C R nm vs bs is V B st outs w0 bb a w → bb i = false → (∀ o, sOps[i]? = some o → ∀ e ∈ o.after, Region.binds .any e = true → bb e.on = true) → wpOp Try.prog sOps Q i (SI X C R nm vs bs is V B st outs w0 (ub bb i)) a w
section
variable {X C R : Nat} {nm : ByteArray} {vs bs is V B : Value} {st : Int} {outs : List Int} {w0 : World} {Q : Exit → Act → World → Prop}
theorem s_swap {O O' : Value} {bb : Nat → Bool} {a : Act} {w : World} (h : RegSt (sF X nm vs bs is V B st O) sD (sFix X C R) w0.heap.size w0 119 bb a w) (h9 : bb 9 = false) : RegSt (sF X nm vs bs is V B st O') sD (sFix X C R) w0.heap.size w0 119 bb a w := by
  have h15 : bb 15 = false := by
    cases e : bb 15 with
    | false => rfl
    | true =>
      have := h.dep (15, 9) (by simp [sD]) e
      rw [h9] at this; cases this
  refine { defers := h.defers, size := h.size, fixed := h.fixed, bel := h.bel, dep := h.dep, f := fun x hx hbx hc => ?_ }
  simp only [sF, List.mem_cons, List.not_mem_nil, or_false] at hx
  rcases hx with rfl | rfl | rfl | rfl | rfl | rfl | rfl | rfl | rfl | rfl | rfl | rfl | rfl | rfl | rfl | rfl | rfl
  · exact h.f (0, [], 105, .val (.pointer (some ⟨X, 0, none⟩))) (by simp [sF]) hbx hc
  · exact h.f (1, [], 106, .val (.pointer (some ⟨X, 0, none⟩))) (by simp [sF]) hbx hc
  · exact h.f (2, [], 107, .val (.pointer (some ⟨X, 4, none⟩))) (by simp [sF]) hbx hc
  · exact h.f (3, [], 108, .val (.agg #[V, B])) (by simp [sF]) hbx hc
  · exact h.f (4, [], 109, .val (.agg #[.string nm, vs, bs, is])) (by simp [sF]) hbx hc
  · exact h.f (5, [], 110, .val (.pointer (some ⟨X, 0, none⟩))) (by simp [sF]) hbx hc
  · exact h.f (6, [], 111, .val (.pointer (some ⟨X, 0, none⟩))) (by simp [sF]) hbx hc
  · exact h.f (7, [], 112, .val (.pointer (some ⟨X, 4, none⟩))) (by simp [sF]) hbx hc
  · exact h.f (8, [], 113, .val (.agg #[V, B])) (by simp [sF]) hbx hc
  · rw [show bb 9 = true from hbx] at h9; cases h9
  · exact h.f (10, [], 115, .val (.pointer (some ⟨X, 0, none⟩))) (by simp [sF]) hbx hc
  · exact h.f (11, [], 116, .val (.pointer (some ⟨X, 0, none⟩))) (by simp [sF]) hbx hc
  · exact h.f (12, [], 117, .val (.pointer (some ⟨X, 8, none⟩))) (by simp [sF]) hbx hc
  · exact h.f (13, [], 118, .val (.int .i64 st)) (by simp [sF]) hbx hc
  · rw [show bb 15 = true from hbx] at h15; cases h15
  · exact h.f (16, [], 10, .val (.int .i64 st)) (by simp [sF]) hbx hc
  · exact h.f (17, [], 11, .val (.int .i64 0)) (by simp [sF]) hbx hc
def so0 : Oper := { dst := some 105, op := Go.Op.move (Go.Operand.tmp 15), type := 110, pos := "scan.go:231", after := #[], guard := none }
theorem sstep0 (_ : SCtx X C R nm vs bs is V B st outs w0) : SStep X C R nm vs bs is V B st outs w0 Q 0 := by
  intro bb a w h hb hdep
  obtain ⟨w1, O, h, hO, hw0, hw1⟩ := h
  have e15 : a.eval (.tmp 15) = .pointer (some ⟨X, 0, none⟩) := h.fixed (15, .pointer (some ⟨X, 0, none⟩)) (by simp [sFix])
  have hr : (execOp a.eval so0).run Try.prog w = .ok (.value (.pointer (some ⟨X, 0, none⟩))) w := by
    simp only [execOp, so0, e15]
    go_simp
  refine wpOp_of (o := so0) rfl rfl ?_
  unfold Oper.wp
  rw [hr]
  exact ⟨w1, O, h.put 0 105 _ none (Nat.le_refl _) (sF_fine _ _ _ _ _ _ _ _ _) hb (.new (Below.refl _ _)) rfl rfl rfl (by decide) (by simp [sD]) (by simp [sF, Spec.holds]), fun e => hO (by rwa [ub_ne (by decide)] at e), fun e => hw0 (by rwa [ub_ne (by decide)] at e), fun e => hw1 (by rwa [ub_ne (by decide)] at e)⟩
def so1 : Oper := { dst := some 106, op := Go.Op.nilCheck (Go.Operand.tmp 105), type := 0, pos := "scan.go:231", after := #[{ on := 0, ground := Go.Ground.data }], guard := none }
theorem sstep1 (_ : SCtx X C R nm vs bs is V B st outs w0) : SStep X C R nm vs bs is V B st outs w0 Q 1 := by
  intro bb a w h hb hdep
  obtain ⟨w1, O, h, hO, hw0, hw1⟩ := h
  have d0 : bb 0 = true := hdep so1 rfl { on := 0, ground := .data } (by simp [so1]) rfl
  have e105 : a.eval (.tmp 105) = .pointer (some ⟨X, 0, none⟩) := h.got (i := 0) (cs := []) (s := .val (.pointer (some ⟨X, 0, none⟩))) (by simp [sF]) d0 (by simp)
  have hr : (execOp a.eval so1).run Try.prog w = .ok (.value (.pointer (some ⟨X, 0, none⟩))) w := by
    simp only [execOp, so1, e105]
    go_simp
  refine wpOp_of (o := so1) rfl rfl ?_
  unfold Oper.wp
  rw [hr]
  exact ⟨w1, O, h.put 1 106 _ none (Nat.le_refl _) (sF_fine _ _ _ _ _ _ _ _ _) hb (.new (Below.refl _ _)) rfl rfl rfl (by decide) (by simp [sD, d0]) (by simp [sF, Spec.holds]), fun e => hO (by rwa [ub_ne (by decide)] at e), fun e => hw0 (by rwa [ub_ne (by decide)] at e), fun e => hw1 (by rwa [ub_ne (by decide)] at e)⟩
def so2 : Oper := { dst := some 107, op := Go.Op.fieldAddr 112 (Go.Operand.tmp 106) 1, type := 0, pos := "scan.go:231", after := #[{ on := 1, ground := Go.Ground.data }], guard := none }
theorem sstep2 (_ : SCtx X C R nm vs bs is V B st outs w0) : SStep X C R nm vs bs is V B st outs w0 Q 2 := by
  intro bb a w h hb hdep
  obtain ⟨w1, O, h, hO, hw0, hw1⟩ := h
  have d1 : bb 1 = true := hdep so2 rfl { on := 1, ground := .data } (by simp [so2]) rfl
  have e106 : a.eval (.tmp 106) = .pointer (some ⟨X, 0, none⟩) := h.got (i := 1) (cs := []) (s := .val (.pointer (some ⟨X, 0, none⟩))) (by simp [sF]) d1 (by simp)
  have hr : (execOp a.eval so2).run Try.prog w = .ok (.value (.pointer (some ⟨X, 4, none⟩))) w := by
    simp only [execOp, so2, e106]
    go_simp
  refine wpOp_of (o := so2) rfl rfl ?_
  unfold Oper.wp
  rw [hr]
  exact ⟨w1, O, h.put 2 107 _ none (Nat.le_refl _) (sF_fine _ _ _ _ _ _ _ _ _) hb (.new (Below.refl _ _)) rfl rfl rfl (by decide) (by simp [sD, d1]) (by simp [sF, Spec.holds]), fun e => hO (by rwa [ub_ne (by decide)] at e), fun e => hw0 (by rwa [ub_ne (by decide)] at e), fun e => hw1 (by rwa [ub_ne (by decide)] at e)⟩
def so3 : Oper := { dst := some 108, op := Go.Op.load 34 (Go.Operand.tmp 107), type := 34, pos := "scan.go:231", after := #[{ on := 2, ground := Go.Ground.data }], guard := none }
theorem sstep3 (C0 : SCtx X C R nm vs bs is V B st outs w0) : SStep X C R nm vs bs is V B st outs w0 Q 3 := by
  intro bb a w h hb hdep
  obtain ⟨w1, O, h, hO, hw0, hw1⟩ := h
  have d2 : bb 2 = true := hdep so3 rfl { on := 2, ground := .data } (by simp [so3]) rfl
  have e107 : a.eval (.tmp 107) = .pointer (some ⟨X, 4, none⟩) := h.got (i := 2) (cs := []) (s := .val (.pointer (some ⟨X, 4, none⟩))) (by simp [sF]) d2 (by simp)
  have h14 : bb 14 = false := by
    cases e14 : bb 14 with
    | false => rfl
    | true =>
      have e3 := h.dep (14, 3) (by simp [sD]) e14
      rw [hb] at e3; cases e3
  obtain rfl := hw0 h14
  obtain ⟨⟨AV, nV, cV', rfl⟩, ⟨AB, nB, cB', rfl⟩⟩ := C0.sl
  have c0 := cell_below h.bel _ _ C0.cV
  have c1 := cell_below h.bel _ _ C0.cB
  have hr : (execOp a.eval so3).run Try.prog w = .ok (.value (.agg #[.slice AV nV cV', .slice AB nB cB'])) w := by
    simp only [execOp, so3, e107]
    go_simp
  refine wpOp_of (o := so3) rfl rfl ?_
  unfold Oper.wp
  rw [hr]
  exact ⟨w, O, h.put 3 108 _ none (Nat.le_refl _) (sF_fine _ _ _ _ _ _ _ _ _) hb (.new (Below.refl _ _)) rfl rfl rfl (by decide) (by simp [sD, d2]) (by simp [sF, Spec.holds]), fun e => hO (by rwa [ub_ne (by decide)] at e), fun _ => rfl, fun e => by rw [ub_ne (by decide), h14] at e; cases e⟩
def so4 : Oper := { dst := some 109, op := Go.Op.load 26 (Go.Operand.tmp 4), type := 26, pos := "scan.go:231", after := #[], guard := none }
theorem sstep4 (C0 : SCtx X C R nm vs bs is V B st outs w0) : SStep X C R nm vs bs is V B st outs w0 Q 4 := by
  intro bb a w h hb hdep
  obtain ⟨w1, O, h, hO, hw0, hw1⟩ := h
  have e4 : a.eval (.tmp 4) = .pointer (some ⟨C, 0, none⟩) := h.fixed (4, .pointer (some ⟨C, 0, none⟩)) (by simp [sFix])
  have h14 : bb 14 = false := by
    cases e14 : bb 14 with
    | false => rfl
    | true =>
      have e9 := h.dep (14, 9) (by simp [sD]) e14
      have e4 := h.dep (9, 4) (by simp [sD]) e9
      rw [hb] at e4; cases e4
  obtain rfl := hw0 h14
  have c0 := cell_below h.bel _ _ C0.c0
  have c1 := cell_below h.bel _ _ C0.c1
  have c2 := cell_below h.bel _ _ C0.c2
  have c3 := cell_below h.bel _ _ C0.c3
  have hr : (execOp a.eval so4).run Try.prog w = .ok (.value (.agg #[.string nm, vs, bs, is])) w := by
    simp only [execOp, so4, e4]
    go_simp
  refine wpOp_of (o := so4) rfl rfl ?_
  unfold Oper.wp
  rw [hr]
  exact ⟨w, O, h.put 4 109 _ none (Nat.le_refl _) (sF_fine _ _ _ _ _ _ _ _ _) hb (.new (Below.refl _ _)) rfl rfl rfl (by decide) (by simp [sD]) (by simp [sF, Spec.holds]), fun e => hO (by rwa [ub_ne (by decide)] at e), fun _ => rfl, fun e => by rw [ub_ne (by decide), h14] at e; cases e⟩
def so5 : Oper := { dst := some 110, op := Go.Op.move (Go.Operand.tmp 15), type := 110, pos := "scan.go:231", after := #[], guard := none }
theorem sstep5 (_ : SCtx X C R nm vs bs is V B st outs w0) : SStep X C R nm vs bs is V B st outs w0 Q 5 := by
  intro bb a w h hb hdep
  obtain ⟨w1, O, h, hO, hw0, hw1⟩ := h
  have e15 : a.eval (.tmp 15) = .pointer (some ⟨X, 0, none⟩) := h.fixed (15, .pointer (some ⟨X, 0, none⟩)) (by simp [sFix])
  have hr : (execOp a.eval so5).run Try.prog w = .ok (.value (.pointer (some ⟨X, 0, none⟩))) w := by
    simp only [execOp, so5, e15]
    go_simp
  refine wpOp_of (o := so5) rfl rfl ?_
  unfold Oper.wp
  rw [hr]
  exact ⟨w1, O, h.put 5 110 _ none (Nat.le_refl _) (sF_fine _ _ _ _ _ _ _ _ _) hb (.new (Below.refl _ _)) rfl rfl rfl (by decide) (by simp [sD]) (by simp [sF, Spec.holds]), fun e => hO (by rwa [ub_ne (by decide)] at e), fun e => hw0 (by rwa [ub_ne (by decide)] at e), fun e => hw1 (by rwa [ub_ne (by decide)] at e)⟩
def so6 : Oper := { dst := some 111, op := Go.Op.nilCheck (Go.Operand.tmp 110), type := 0, pos := "scan.go:231", after := #[{ on := 5, ground := Go.Ground.data }], guard := none }
theorem sstep6 (_ : SCtx X C R nm vs bs is V B st outs w0) : SStep X C R nm vs bs is V B st outs w0 Q 6 := by
  intro bb a w h hb hdep
  obtain ⟨w1, O, h, hO, hw0, hw1⟩ := h
  have d5 : bb 5 = true := hdep so6 rfl { on := 5, ground := .data } (by simp [so6]) rfl
  have e110 : a.eval (.tmp 110) = .pointer (some ⟨X, 0, none⟩) := h.got (i := 5) (cs := []) (s := .val (.pointer (some ⟨X, 0, none⟩))) (by simp [sF]) d5 (by simp)
  have hr : (execOp a.eval so6).run Try.prog w = .ok (.value (.pointer (some ⟨X, 0, none⟩))) w := by
    simp only [execOp, so6, e110]
    go_simp
  refine wpOp_of (o := so6) rfl rfl ?_
  unfold Oper.wp
  rw [hr]
  exact ⟨w1, O, h.put 6 111 _ none (Nat.le_refl _) (sF_fine _ _ _ _ _ _ _ _ _) hb (.new (Below.refl _ _)) rfl rfl rfl (by decide) (by simp [sD, d5]) (by simp [sF, Spec.holds]), fun e => hO (by rwa [ub_ne (by decide)] at e), fun e => hw0 (by rwa [ub_ne (by decide)] at e), fun e => hw1 (by rwa [ub_ne (by decide)] at e)⟩
def so7 : Oper := { dst := some 112, op := Go.Op.fieldAddr 112 (Go.Operand.tmp 111) 1, type := 0, pos := "scan.go:231", after := #[{ on := 6, ground := Go.Ground.data }], guard := none }
theorem sstep7 (_ : SCtx X C R nm vs bs is V B st outs w0) : SStep X C R nm vs bs is V B st outs w0 Q 7 := by
  intro bb a w h hb hdep
  obtain ⟨w1, O, h, hO, hw0, hw1⟩ := h
  have d6 : bb 6 = true := hdep so7 rfl { on := 6, ground := .data } (by simp [so7]) rfl
  have e111 : a.eval (.tmp 111) = .pointer (some ⟨X, 0, none⟩) := h.got (i := 6) (cs := []) (s := .val (.pointer (some ⟨X, 0, none⟩))) (by simp [sF]) d6 (by simp)
  have hr : (execOp a.eval so7).run Try.prog w = .ok (.value (.pointer (some ⟨X, 4, none⟩))) w := by
    simp only [execOp, so7, e111]
    go_simp
  refine wpOp_of (o := so7) rfl rfl ?_
  unfold Oper.wp
  rw [hr]
  exact ⟨w1, O, h.put 7 112 _ none (Nat.le_refl _) (sF_fine _ _ _ _ _ _ _ _ _) hb (.new (Below.refl _ _)) rfl rfl rfl (by decide) (by simp [sD, d6]) (by simp [sF, Spec.holds]), fun e => hO (by rwa [ub_ne (by decide)] at e), fun e => hw0 (by rwa [ub_ne (by decide)] at e), fun e => hw1 (by rwa [ub_ne (by decide)] at e)⟩
def so8 : Oper := { dst := some 113, op := Go.Op.load 34 (Go.Operand.tmp 112), type := 34, pos := "scan.go:231", after := #[{ on := 7, ground := Go.Ground.data }], guard := none }
theorem sstep8 (C0 : SCtx X C R nm vs bs is V B st outs w0) : SStep X C R nm vs bs is V B st outs w0 Q 8 := by
  intro bb a w h hb hdep
  obtain ⟨w1, O, h, hO, hw0, hw1⟩ := h
  have d7 : bb 7 = true := hdep so8 rfl { on := 7, ground := .data } (by simp [so8]) rfl
  have e112 : a.eval (.tmp 112) = .pointer (some ⟨X, 4, none⟩) := h.got (i := 7) (cs := []) (s := .val (.pointer (some ⟨X, 4, none⟩))) (by simp [sF]) d7 (by simp)
  have h14 : bb 14 = false := by
    cases e14 : bb 14 with
    | false => rfl
    | true =>
      have e9 := h.dep (14, 9) (by simp [sD]) e14
      have e8 := h.dep (9, 8) (by simp [sD]) e9
      rw [hb] at e8; cases e8
  obtain rfl := hw0 h14
  obtain ⟨⟨AV, nV, cV', rfl⟩, ⟨AB, nB, cB', rfl⟩⟩ := C0.sl
  have c0 := cell_below h.bel _ _ C0.cV
  have c1 := cell_below h.bel _ _ C0.cB
  have hr : (execOp a.eval so8).run Try.prog w = .ok (.value (.agg #[.slice AV nV cV', .slice AB nB cB'])) w := by
    simp only [execOp, so8, e112]
    go_simp
  refine wpOp_of (o := so8) rfl rfl ?_
  unfold Oper.wp
  rw [hr]
  exact ⟨w, O, h.put 8 113 _ none (Nat.le_refl _) (sF_fine _ _ _ _ _ _ _ _ _) hb (.new (Below.refl _ _)) rfl rfl rfl (by decide) (by simp [sD, d7]) (by simp [sF, Spec.holds]), fun e => hO (by rwa [ub_ne (by decide)] at e), fun _ => rfl, fun e => by rw [ub_ne (by decide), h14] at e; cases e⟩
def so9 : Oper := { dst := some 114, op := Go.Op.call { callee := Go.Callee.value (Go.Operand.func 49), args := #[Go.Operand.tmp 109, Go.Operand.tmp 113, Go.Operand.const (Go.Value.int Go.IntKind.u8 2)], argTypes := #[26, 34, 40] }, type := 31, pos := "scan.go:231", after := #[{ on := 4, ground := Go.Ground.data }, { on := 8, ground := Go.Ground.data }], guard := none }
theorem sstep9 (C0 : SCtx X C R nm vs bs is V B st outs w0) : SStep X C R nm vs bs is V B st outs w0 Q 9 := by
  intro bb a w h hb hdep
  obtain ⟨w1, O, h, hO, hw0, hw1⟩ := h
  have d4 : bb 4 = true := hdep so9 rfl { on := 4, ground := .data } (by simp [so9]) rfl
  have d8 : bb 8 = true := hdep so9 rfl { on := 8, ground := .data } (by simp [so9]) rfl
  have e109 : a.eval (.tmp 109) = .agg #[.string nm, vs, bs, is] := h.got (i := 4) (cs := []) (s := .val (.agg #[.string nm, vs, bs, is])) (by simp [sF]) d4 (by simp)
  have e113 : a.eval (.tmp 113) = .agg #[V, B] := h.got (i := 8) (cs := []) (s := .val (.agg #[V, B])) (by simp [sF]) d8 (by simp)
  have h14 : bb 14 = false := by
    cases e14 : bb 14 with
    | false => rfl
    | true =>
      have e9 := h.dep (14, 9) (by simp [sD]) e14
      rw [hb] at e9; cases e9
  obtain rfl := hw0 h14
  obtain ⟨⟨AV, nV, cV', rfl⟩, ⟨AB, nB, cB', rfl⟩⟩ := C0.sl
  have e109' : a.tmps[109]?.getD undef = .agg #[.string nm, vs, bs, is] := by rw [← Array.getD_eq_getD_getElem?]; exact e109
  have e113' : a.tmps[113]?.getD undef = .agg #[.slice AV nV cV', .slice AB nB cB'] := by rw [← Array.getD_eq_getD_getElem?]; exact e113
  have hr : (execOp a.eval so9).run Try.prog w = .ok (.enter 49 #[.agg #[.string nm, vs, bs, is], .agg #[.slice AV nV cV', .slice AB nB cB'], .int .u8 2]) w := by
    simp only [execOp, so9]
    go_simp
  refine wpOp_of (o := so9) rfl rfl ?_
  unfold Oper.wp
  rw [hr, Oper.upon_enter]
  refine (C0.run w h.bel).mono ?_
  rintro e w' ⟨O', rfl, ho', hb'⟩
  have h2 := s_swap (O' := O') h hb
  exact ⟨w', O', h2.put 9 114 _ none (Nat.le_refl _) (sF_fine _ _ _ _ _ _ _ _ _) hb (.new hb') rfl rfl rfl (by decide) (by simp [sD, d4, d8]) (by simp [sF, Spec.holds]), fun _ => ho'.lower h.bel.size, fun _ => rfl, fun e => by rw [ub_ne (by decide), h14] at e; cases e⟩
def so10 : Oper := { dst := some 115, op := Go.Op.move (Go.Operand.tmp 15), type := 110, pos := "scan.go:231", after := #[{ on := 15, ground := Go.Ground.gcOnly Go.Departure.lateStores }], guard := none }
theorem sstep10 (_ : SCtx X C R nm vs bs is V B st outs w0) : SStep X C R nm vs bs is V B st outs w0 Q 10 := by
  intro bb a w h hb hdep
  obtain ⟨w1, O, h, hO, hw0, hw1⟩ := h
  have e15 : a.eval (.tmp 15) = .pointer (some ⟨X, 0, none⟩) := h.fixed (15, .pointer (some ⟨X, 0, none⟩)) (by simp [sFix])
  have hr : (execOp a.eval so10).run Try.prog w = .ok (.value (.pointer (some ⟨X, 0, none⟩))) w := by
    simp only [execOp, so10, e15]
    go_simp
  refine wpOp_of (o := so10) rfl rfl ?_
  unfold Oper.wp
  rw [hr]
  exact ⟨w1, O, h.put 10 115 _ none (Nat.le_refl _) (sF_fine _ _ _ _ _ _ _ _ _) hb (.new (Below.refl _ _)) rfl rfl rfl (by decide) (by simp [sD]) (by simp [sF, Spec.holds]), fun e => hO (by rwa [ub_ne (by decide)] at e), fun e => hw0 (by rwa [ub_ne (by decide)] at e), fun e => hw1 (by rwa [ub_ne (by decide)] at e)⟩
def so11 : Oper := { dst := some 116, op := Go.Op.nilCheck (Go.Operand.tmp 115), type := 0, pos := "scan.go:231", after := #[{ on := 10, ground := Go.Ground.data }, { on := 15, ground := Go.Ground.gcOnly Go.Departure.lateStores }], guard := none }
theorem sstep11 (_ : SCtx X C R nm vs bs is V B st outs w0) : SStep X C R nm vs bs is V B st outs w0 Q 11 := by
  intro bb a w h hb hdep
  obtain ⟨w1, O, h, hO, hw0, hw1⟩ := h
  have d10 : bb 10 = true := hdep so11 rfl { on := 10, ground := .data } (by simp [so11]) rfl
  have e115 : a.eval (.tmp 115) = .pointer (some ⟨X, 0, none⟩) := h.got (i := 10) (cs := []) (s := .val (.pointer (some ⟨X, 0, none⟩))) (by simp [sF]) d10 (by simp)
  have hr : (execOp a.eval so11).run Try.prog w = .ok (.value (.pointer (some ⟨X, 0, none⟩))) w := by
    simp only [execOp, so11, e115]
    go_simp
  refine wpOp_of (o := so11) rfl rfl ?_
  unfold Oper.wp
  rw [hr]
  exact ⟨w1, O, h.put 11 116 _ none (Nat.le_refl _) (sF_fine _ _ _ _ _ _ _ _ _) hb (.new (Below.refl _ _)) rfl rfl rfl (by decide) (by simp [sD, d10]) (by simp [sF, Spec.holds]), fun e => hO (by rwa [ub_ne (by decide)] at e), fun e => hw0 (by rwa [ub_ne (by decide)] at e), fun e => hw1 (by rwa [ub_ne (by decide)] at e)⟩
def so12 : Oper := { dst := some 117, op := Go.Op.fieldAddr 112 (Go.Operand.tmp 116) 4, type := 0, pos := "scan.go:231", after := #[{ on := 11, ground := Go.Ground.data }, { on := 15, ground := Go.Ground.gcOnly Go.Departure.lateStores }], guard := none }
theorem sstep12 (_ : SCtx X C R nm vs bs is V B st outs w0) : SStep X C R nm vs bs is V B st outs w0 Q 12 := by
  intro bb a w h hb hdep
  obtain ⟨w1, O, h, hO, hw0, hw1⟩ := h
  have d11 : bb 11 = true := hdep so12 rfl { on := 11, ground := .data } (by simp [so12]) rfl
  have e116 : a.eval (.tmp 116) = .pointer (some ⟨X, 0, none⟩) := h.got (i := 11) (cs := []) (s := .val (.pointer (some ⟨X, 0, none⟩))) (by simp [sF]) d11 (by simp)
  have hr : (execOp a.eval so12).run Try.prog w = .ok (.value (.pointer (some ⟨X, 8, none⟩))) w := by
    simp only [execOp, so12, e116]
    go_simp
  refine wpOp_of (o := so12) rfl rfl ?_
  unfold Oper.wp
  rw [hr]
  exact ⟨w1, O, h.put 12 117 _ none (Nat.le_refl _) (sF_fine _ _ _ _ _ _ _ _ _) hb (.new (Below.refl _ _)) rfl rfl rfl (by decide) (by simp [sD, d11]) (by simp [sF, Spec.holds]), fun e => hO (by rwa [ub_ne (by decide)] at e), fun e => hw0 (by rwa [ub_ne (by decide)] at e), fun e => hw1 (by rwa [ub_ne (by decide)] at e)⟩
def so13 : Oper := { dst := some 118, op := Go.Op.load 3 (Go.Operand.tmp 117), type := 3, pos := "scan.go:231", after := #[{ on := 12, ground := Go.Ground.data }, { on := 15, ground := Go.Ground.gcOnly Go.Departure.lateStores }], guard := none }
theorem sstep13 (C0 : SCtx X C R nm vs bs is V B st outs w0) : SStep X C R nm vs bs is V B st outs w0 Q 13 := by
  intro bb a w h hb hdep
  obtain ⟨w1, O, h, hO, hw0, hw1⟩ := h
  have d12 : bb 12 = true := hdep so13 rfl { on := 12, ground := .data } (by simp [so13]) rfl
  have e117 : a.eval (.tmp 117) = .pointer (some ⟨X, 8, none⟩) := h.got (i := 12) (cs := []) (s := .val (.pointer (some ⟨X, 8, none⟩))) (by simp [sF]) d12 (by simp)
  have c0 : w.cell? ⟨X, 8, none⟩ = some (.int .i64 st) := by
    have c1 := cell_below h.bel _ _ C0.cS
    cases e14 : bb 14 with
    | false => rw [hw0 e14]; exact c1
    | true =>
      rw [hw1 e14]
      exact (World.cell?_of_block (w := w1) ((Below.heap_setCell _ ⟨R, 1, none⟩ B X C0.ne).trans (Below.heap_setCell _ ⟨R, 0, none⟩ V X C0.ne))).trans c1
  have hr : (execOp a.eval so13).run Try.prog w = .ok (.value (.int .i64 st)) w := by
    simp only [execOp, so13, e117]
    go_simp
  refine wpOp_of (o := so13) rfl rfl ?_
  unfold Oper.wp
  rw [hr]
  exact ⟨w1, O, h.put 13 118 _ none (Nat.le_refl _) (sF_fine _ _ _ _ _ _ _ _ _) hb (.new (Below.refl _ _)) rfl rfl rfl (by decide) (by simp [sD, d12]) (by simp [sF, Spec.holds]), fun e => hO (by rwa [ub_ne (by decide)] at e), fun e => hw0 (by rwa [ub_ne (by decide)] at e), fun e => hw1 (by rwa [ub_ne (by decide)] at e)⟩
def so14 : Oper := { dst := none, op := Go.Op.store 34 (Go.Operand.tmp 8) (Go.Operand.tmp 108), type := 0, pos := "scan.go:231", after := #[{ on := 3, ground := Go.Ground.data }, { on := 9, ground := Go.Ground.chain }, { on := 0, ground := Go.Ground.phase }, { on := 1, ground := Go.Ground.phase }, { on := 2, ground := Go.Ground.phase }, { on := 3, ground := Go.Ground.phase }, { on := 4, ground := Go.Ground.textOnly Go.Departure.lateStores }, { on := 5, ground := Go.Ground.textOnly Go.Departure.lateStores }, { on := 6, ground := Go.Ground.textOnly Go.Departure.lateStores }, { on := 7, ground := Go.Ground.textOnly Go.Departure.lateStores }, { on := 8, ground := Go.Ground.textOnly Go.Departure.lateStores }, { on := 9, ground := Go.Ground.textOnly Go.Departure.lateStoresUnsure }, { on := 10, ground := Go.Ground.textOnly Go.Departure.lateStores }, { on := 11, ground := Go.Ground.textOnly Go.Departure.lateStores }, { on := 12, ground := Go.Ground.textOnly Go.Departure.lateStores }, { on := 13, ground := Go.Ground.textOnly Go.Departure.lateStores }], guard := none }
theorem sstep14 (C0 : SCtx X C R nm vs bs is V B st outs w0) : SStep X C R nm vs bs is V B st outs w0 Q 14 := by
  intro bb a w h hb hdep
  obtain ⟨w1, O, h, hO, hw0, hw1⟩ := h
  have d3 : bb 3 = true := hdep so14 rfl { on := 3, ground := .data } (by simp [so14]) rfl
  have d9 : bb 9 = true := hdep so14 rfl { on := 9, ground := .chain } (by simp [so14]) rfl
  have e8 : a.eval (.tmp 8) = .pointer (some ⟨R, 0, none⟩) := h.fixed (8, .pointer (some ⟨R, 0, none⟩)) (by simp [sFix])
  have e108 : a.eval (.tmp 108) = .agg #[V, B] := h.got (i := 3) (cs := []) (s := .val (.agg #[V, B])) (by simp [sF]) d3 (by simp)
  have h14 : bb 14 = false := hb
  obtain rfl := hw0 h14
  obtain ⟨⟨AV, nV, cV', rfl⟩, ⟨AB, nB, cB', rfl⟩⟩ := C0.sl
  obtain ⟨u, v, hrow⟩ := C0.row
  have lR : R < w0.heap.size := (Array.getElem?_eq_some_iff.1 hrow).1
  have hG := (h.bel.block R lR).trans hrow
  have q0 : w.cell? ⟨R, 0, none⟩ = some u := cell_of_row _ _ 0 _ _ _ hG
  have f0 : w.frozen? ⟨R, 0, none⟩ = false := frozen_of_row w R _ _ _ hG
  have q1 : w.cell? ⟨R, 1, none⟩ = some v := cell_of_row _ _ 1 _ _ _ hG
  have f1 : w.frozen? ⟨R, 1, none⟩ = false := frozen_of_row w R _ _ _ hG
  have hr : (execOp a.eval so14).run Try.prog w = .ok .skip ((w.setCell ⟨R, 0, none⟩ (.slice AV nV cV')).setCell ⟨R, 1, none⟩ (.slice AB nB cB')) := by
    simp only [execOp, so14, e8, e108]
    go_simp
  refine wpOp_of (o := so14) rfl rfl ?_
  unfold Oper.wp
  rw [hr]
  exact ⟨w, O, h.mark 14 rfl (by simp [sD, d3, d9]), fun _ => hO d9, fun e => (by rw [ub_self] at e; cases e), fun _ => rfl⟩
def so15 : Oper := { dst := some 9, op := Go.Op.assign (Go.Operand.tmp 114), type := 31, pos := "scan.go:231", after := #[{ on := 9, ground := Go.Ground.data }, { on := 14, ground := Go.Ground.chain }, { on := 0, ground := Go.Ground.phase }, { on := 1, ground := Go.Ground.phase }, { on := 2, ground := Go.Ground.phase }, { on := 3, ground := Go.Ground.phase }, { on := 4, ground := Go.Ground.phase }, { on := 5, ground := Go.Ground.phase }, { on := 6, ground := Go.Ground.phase }, { on := 7, ground := Go.Ground.phase }, { on := 8, ground := Go.Ground.phase }, { on := 9, ground := Go.Ground.phase }, { on := 10, ground := Go.Ground.textOnly Go.Departure.lateStores }, { on := 11, ground := Go.Ground.textOnly Go.Departure.lateStores }, { on := 12, ground := Go.Ground.textOnly Go.Departure.lateStores }, { on := 13, ground := Go.Ground.textOnly Go.Departure.lateStores }, { on := 14, ground := Go.Ground.phase }], guard := none }
theorem sstep15 (_ : SCtx X C R nm vs bs is V B st outs w0) : SStep X C R nm vs bs is V B st outs w0 Q 15 := by
  intro bb a w h hb hdep
  obtain ⟨w1, O, h, hO, hw0, hw1⟩ := h
  have d9 : bb 9 = true := hdep so15 rfl { on := 9, ground := .data } (by simp [so15]) rfl
  have e114 : a.eval (.tmp 114) = O := h.got (i := 9) (cs := []) (s := .val (O)) (by simp [sF]) d9 (by simp)
  have hr : (execOp a.eval so15).run Try.prog w = .ok (.value (O)) w := by
    simp only [execOp, so15, e114]
    go_simp
  refine wpOp_of (o := so15) rfl rfl ?_
  unfold Oper.wp
  rw [hr]
  exact ⟨w1, O, h.put 15 9 _ none (Nat.le_refl _) (sF_fine _ _ _ _ _ _ _ _ _) hb (.new (Below.refl _ _)) rfl rfl rfl (by decide) (by simp [sD, d9]) (by simp [sF, Spec.holds]), fun e => hO (by rwa [ub_ne (by decide)] at e), fun e => hw0 (by rwa [ub_ne (by decide)] at e), fun e => hw1 (by rwa [ub_ne (by decide)] at e)⟩
def so16 : Oper := { dst := some 10, op := Go.Op.assign (Go.Operand.tmp 118), type := 3, pos := "scan.go:231", after := #[{ on := 13, ground := Go.Ground.data }, { on := 15, ground := Go.Ground.chain }, { on := 0, ground := Go.Ground.phase }, { on := 1, ground := Go.Ground.phase }, { on := 2, ground := Go.Ground.phase }, { on := 3, ground := Go.Ground.phase }, { on := 4, ground := Go.Ground.phase }, { on := 5, ground := Go.Ground.phase }, { on := 6, ground := Go.Ground.phase }, { on := 7, ground := Go.Ground.phase }, { on := 8, ground := Go.Ground.phase }, { on := 9, ground := Go.Ground.phase }, { on := 10, ground := Go.Ground.phase }, { on := 11, ground := Go.Ground.phase }, { on := 12, ground := Go.Ground.phase }, { on := 13, ground := Go.Ground.phase }, { on := 14, ground := Go.Ground.phase }, { on := 15, ground := Go.Ground.phase }], guard := none }
theorem sstep16 (_ : SCtx X C R nm vs bs is V B st outs w0) : SStep X C R nm vs bs is V B st outs w0 Q 16 := by
  intro bb a w h hb hdep
  obtain ⟨w1, O, h, hO, hw0, hw1⟩ := h
  have d13 : bb 13 = true := hdep so16 rfl { on := 13, ground := .data } (by simp [so16]) rfl
  have e118 : a.eval (.tmp 118) = .int .i64 st := h.got (i := 13) (cs := []) (s := .val (.int .i64 st)) (by simp [sF]) d13 (by simp)
  have hr : (execOp a.eval so16).run Try.prog w = .ok (.value (.int .i64 st)) w := by
    simp only [execOp, so16, e118]
    go_simp
  refine wpOp_of (o := so16) rfl rfl ?_
  unfold Oper.wp
  rw [hr]
  exact ⟨w1, O, h.put 16 10 _ none (Nat.le_refl _) (sF_fine _ _ _ _ _ _ _ _ _) hb (.new (Below.refl _ _)) rfl rfl rfl (by decide) (by simp [sD, d13]) (by simp [sF, Spec.holds]), fun e => hO (by rwa [ub_ne (by decide)] at e), fun e => hw0 (by rwa [ub_ne (by decide)] at e), fun e => hw1 (by rwa [ub_ne (by decide)] at e)⟩
def so17 : Oper := { dst := some 11, op := Go.Op.assign (Go.Operand.const (Go.Value.int Go.IntKind.i64 0)), type := 35, pos := "scan.go:231", after := #[{ on := 16, ground := Go.Ground.chain }, { on := 0, ground := Go.Ground.phase }, { on := 1, ground := Go.Ground.phase }, { on := 2, ground := Go.Ground.phase }, { on := 3, ground := Go.Ground.phase }, { on := 4, ground := Go.Ground.phase }, { on := 5, ground := Go.Ground.phase }, { on := 6, ground := Go.Ground.phase }, { on := 7, ground := Go.Ground.phase }, { on := 8, ground := Go.Ground.phase }, { on := 9, ground := Go.Ground.phase }, { on := 10, ground := Go.Ground.phase }, { on := 11, ground := Go.Ground.phase }, { on := 12, ground := Go.Ground.phase }, { on := 13, ground := Go.Ground.phase }, { on := 14, ground := Go.Ground.phase }, { on := 15, ground := Go.Ground.phase }, { on := 16, ground := Go.Ground.phase }], guard := none }
theorem sstep17 (_ : SCtx X C R nm vs bs is V B st outs w0) : SStep X C R nm vs bs is V B st outs w0 Q 17 := by
  intro bb a w h hb hdep
  obtain ⟨w1, O, h, hO, hw0, hw1⟩ := h
  have hr : (execOp a.eval so17).run Try.prog w = .ok (.value (.int .i64 0)) w := by
    simp only [execOp, so17]
    go_simp
  refine wpOp_of (o := so17) rfl rfl ?_
  unfold Oper.wp
  rw [hr]
  exact ⟨w1, O, h.put 17 11 _ none (Nat.le_refl _) (sF_fine _ _ _ _ _ _ _ _ _) hb (.new (Below.refl _ _)) rfl rfl rfl (by decide) (by simp [sD]) (by simp [sF, Spec.holds]), fun e => hO (by rwa [ub_ne (by decide)] at e), fun e => hw0 (by rwa [ub_ne (by decide)] at e), fun e => hw1 (by rwa [ub_ne (by decide)] at e)⟩
theorem s_hac : ∀ i o, sOps[i]? = some o → ∀ e ∈ o.after, Region.binds .any e = true → e.on < i := by
  have h : ((List.range sOps.size).all fun i => match sOps[i]? with | some o => o.after.all fun e => !(Region.binds .any e) || decide (e.on < i) | none => true) = true := by decide +kernel
  intro i o ho e he hb
  have hi : i < sOps.size := (Array.getElem?_eq_some_iff.1 ho).1
  have h1 := List.all_eq_true.1 h i (List.mem_range.2 hi)
  rw [ho] at h1
  have h2 := Array.all_eq_true_iff_forall_mem.1 h1 e he
  rw [hb] at h2
  exact of_decide_eq_true h2
set_option maxHeartbeats 1000000 in
set_option maxRecDepth 100000 in
theorem scan_region (C0 : SCtx X C R nm vs bs is V B st outs w0) (a : Act) (ha : a.defers = []) (hz : a.tmps.size = 119) (h4 : a.eval (.tmp 4) = .pointer (some ⟨C, 0, none⟩)) (h8 : a.eval (.tmp 8) = .pointer (some ⟨R, 0, none⟩)) (h15 : a.eval (.tmp 15) = .pointer (some ⟨X, 0, none⟩))
    (cont : ∀ (a : Act) (O : Value) (w1 : World), a.defers = [] → a.eval (.tmp 8) = .pointer (some ⟨R, 0, none⟩) → a.eval (.tmp 9) = O → a.eval (.tmp 10) = .int .i64 st → a.eval (.tmp 11) = .int .i64 0 → Below w0.heap.size w0 w1 → Own 2 1 oneI64 w1 w0.heap.size O outs → Q .normal a ((w1.setCell ⟨R, 0, none⟩ V).setCell ⟨R, 1, none⟩ B)) :
    (Code.region 14 sOps true).wp Try.prog Q a w0 := by
  refine wp_region_inv (ops := sOps) (by kernel_rfl) s_hac (SI X C R nm vs bs is V B st outs w0) ?_ ?_ ?_
  · exact ⟨w0.drew, undef, { defers := ha, size := hz, fixed := by simp [sFix, h4, h8, h15], bel := (Below.refl _ _).drew, f := (fun _ _ h => by cases h), dep := (fun _ _ h => by cases h) }, fun h => (by cases h), fun _ => rfl, fun h => (by cases h)⟩
  · intro i hi
    change i < 18 at hi
    match i, hi with
    | 0, _ => exact sstep0 C0
    | 1, _ => exact sstep1 C0
    | 2, _ => exact sstep2 C0
    | 3, _ => exact sstep3 C0
    | 4, _ => exact sstep4 C0
    | 5, _ => exact sstep5 C0
    | 6, _ => exact sstep6 C0
    | 7, _ => exact sstep7 C0
    | 8, _ => exact sstep8 C0
    | 9, _ => exact sstep9 C0
    | 10, _ => exact sstep10 C0
    | 11, _ => exact sstep11 C0
    | 12, _ => exact sstep12 C0
    | 13, _ => exact sstep13 C0
    | 14, _ => exact sstep14 C0
    | 15, _ => exact sstep15 C0
    | 16, _ => exact sstep16 C0
    | 17, _ => exact sstep17 C0
    | n + 18, hi => exact absurd hi (by omega)
  · intro bb a w hall h
    obtain ⟨w1, O, h, hO, -, hw1⟩ := h
    obtain rfl := hw1 (hall 14 (by decide))
    exact cont a O w1 h.defers (h.fixed (8, .pointer (some ⟨R, 0, none⟩)) (by simp [sFix])) (h.got (i := 15) (cs := []) (s := .val O) (by simp [sF]) (hall 15 (by decide)) (by simp)) (h.got (i := 16) (cs := []) (s := .val (.int .i64 st)) (by simp [sF]) (hall 16 (by decide)) (by simp)) (h.got (i := 17) (cs := []) (s := .val (.int .i64 0)) (by simp [sF]) (hall 17 (by decide)) (by simp)) h.bel (hO (hall 9 (by decide)))
end
end Go.Proofs.Ytiogpainajokkaa
