/- machine.runs' region that runs a block (it draws its order). Printed by gen_rnr.py. -/
import Derived.Test.YtiogpainajokkaaMchM
import Derived.Test.YtiogpainajokkaaRns0
import Derived.IntWalk
namespace Go.Proofs.Ytiogpainajokkaa
open Go.RowKit
def rOps : Array Oper := #[{ dst := some 29, op := Go.Op.move (Go.Operand.tmp 0), type := 110, pos := "scan.go:163", after := #[], guard := none },
  { dst := some 30, op := Go.Op.nilCheck (Go.Operand.tmp 29), type := 0, pos := "scan.go:163", after := #[{ on := 0, ground := Go.Ground.data }], guard := none },
  { dst := some 31, op := Go.Op.fieldAddr 112 (Go.Operand.tmp 30) 1, type := 0, pos := "scan.go:163", after := #[{ on := 1, ground := Go.Ground.data }], guard := none },
  { dst := some 32, op := Go.Op.fieldAddr 34 (Go.Operand.tmp 31) 1, type := 0, pos := "scan.go:163", after := #[{ on := 2, ground := Go.Ground.data }], guard := none },
  { dst := some 33, op := Go.Op.load 32 (Go.Operand.tmp 32), type := 32, pos := "scan.go:163", after := #[{ on := 3, ground := Go.Ground.data }], guard := none },
  { dst := some 34, op := Go.Op.fieldAddr 49 (Go.Operand.tmp 3) 2, type := 0, pos := "scan.go:163", after := #[], guard := none },
  { dst := some 35, op := Go.Op.load 3 (Go.Operand.tmp 34), type := 3, pos := "scan.go:163", after := #[{ on := 5, ground := Go.Ground.data }], guard := none },
  { dst := some 36, op := Go.Op.move (Go.Operand.tmp 0), type := 110, pos := "scan.go:163", after := #[], guard := none },
  { dst := some 37, op := Go.Op.nilCheck (Go.Operand.tmp 36), type := 0, pos := "scan.go:163", after := #[{ on := 7, ground := Go.Ground.data }], guard := none },
  { dst := some 38, op := Go.Op.fieldAddr 112 (Go.Operand.tmp 37) 1, type := 0, pos := "scan.go:163", after := #[{ on := 8, ground := Go.Ground.data }], guard := none },
  { dst := some 39, op := Go.Op.fieldAddr 34 (Go.Operand.tmp 38) 1, type := 0, pos := "scan.go:163", after := #[{ on := 9, ground := Go.Ground.data }], guard := none },
  { dst := some 40, op := Go.Op.load 32 (Go.Operand.tmp 39), type := 32, pos := "scan.go:163", after := #[{ on := 10, ground := Go.Ground.data }], guard := none },
  { dst := some 41, op := Go.Op.fieldAddr 49 (Go.Operand.tmp 3) 2, type := 0, pos := "scan.go:163", after := #[], guard := none },
  { dst := some 42, op := Go.Op.load 3 (Go.Operand.tmp 41), type := 3, pos := "scan.go:163", after := #[{ on := 12, ground := Go.Ground.data }], guard := none },
  { dst := some 43, op := Go.Op.indexAddr 32 (Go.Operand.tmp 40) (Go.Operand.tmp 42), type := 0, pos := "scan.go:163", after := #[{ on := 11, ground := Go.Ground.data }, { on := 13, ground := Go.Ground.data }], guard := none },
  { dst := some 44, op := Go.Op.load 67 (Go.Operand.tmp 43), type := 67, pos := "scan.go:163", after := #[{ on := 14, ground := Go.Ground.data }], guard := none },
  { dst := some 45, op := Go.Op.move (Go.Operand.tmp 0), type := 110, pos := "scan.go:163", after := #[], guard := none },
  { dst := some 46, op := Go.Op.nilCheck (Go.Operand.tmp 45), type := 0, pos := "scan.go:163", after := #[{ on := 16, ground := Go.Ground.data }], guard := none },
  { dst := some 47, op := Go.Op.fieldAddr 112 (Go.Operand.tmp 46) 2, type := 0, pos := "scan.go:163", after := #[{ on := 17, ground := Go.Ground.data }], guard := none },
  { dst := some 48, op := Go.Op.load 31 (Go.Operand.tmp 47), type := 31, pos := "scan.go:163", after := #[{ on := 18, ground := Go.Ground.data }], guard := none },
  { dst := some 49, op := Go.Op.move (Go.Operand.tmp 6), type := 3, pos := "scan.go:163", after := #[], guard := none },
  { dst := some 50, op := Go.Op.slice 31 (Go.Operand.tmp 48) (some (Go.Operand.tmp 49)) none none, type := 31, pos := "scan.go:163", after := #[{ on := 19, ground := Go.Ground.data }, { on := 20, ground := Go.Ground.data }], guard := none },
  { dst := some 51, op := Go.Op.move (Go.Operand.tmp 0), type := 110, pos := "scan.go:163", after := #[], guard := none },
  { dst := some 52, op := Go.Op.nilCheck (Go.Operand.tmp 51), type := 0, pos := "scan.go:163", after := #[{ on := 22, ground := Go.Ground.data }], guard := none },
  { dst := some 53, op := Go.Op.fieldAddr 112 (Go.Operand.tmp 52) 5, type := 0, pos := "scan.go:163", after := #[{ on := 23, ground := Go.Ground.data }], guard := none },
  { dst := some 54, op := Go.Op.load 2 (Go.Operand.tmp 53), type := 2, pos := "scan.go:163", after := #[{ on := 24, ground := Go.Ground.data }], guard := none },
  { dst := some 55, op := Go.Op.call { callee := Go.Callee.value (Go.Operand.func 135), args := #[Go.Operand.tmp 44, Go.Operand.tmp 50, Go.Operand.tmp 54], argTypes := #[67, 31, 2] }, type := 163, pos := "scan.go:163", after := #[{ on := 15, ground := Go.Ground.data }, { on := 21, ground := Go.Ground.data }, { on := 25, ground := Go.Ground.data }], guard := none },
  { dst := some 28, op := Go.Op.move (Go.Operand.tmp 55), type := 163, pos := "scan.go:163", after := #[{ on := 26, ground := Go.Ground.data }], guard := none },
  { dst := some 56, op := Go.Op.extract (Go.Operand.tmp 28) 0, type := 67, pos := "scan.go:163", after := #[{ on := 27, ground := Go.Ground.data }], guard := none },
  { dst := some 57, op := Go.Op.extract (Go.Operand.tmp 28) 1, type := 35, pos := "scan.go:163", after := #[{ on := 27, ground := Go.Ground.data }, { on := 31, ground := Go.Ground.gcOnly Go.Departure.lateStores }], guard := none },
  { dst := some 58, op := Go.Op.indexAddr 32 (Go.Operand.tmp 33) (Go.Operand.tmp 35), type := 0, pos := "scan.go:163", after := #[{ on := 4, ground := Go.Ground.data }, { on := 6, ground := Go.Ground.data }, { on := 0, ground := Go.Ground.phase }, { on := 1, ground := Go.Ground.phase }, { on := 2, ground := Go.Ground.phase }, { on := 3, ground := Go.Ground.phase }, { on := 4, ground := Go.Ground.phase }, { on := 5, ground := Go.Ground.phase }, { on := 6, ground := Go.Ground.phase }, { on := 7, ground := Go.Ground.phase }, { on := 8, ground := Go.Ground.phase }, { on := 9, ground := Go.Ground.phase }, { on := 10, ground := Go.Ground.phase }, { on := 11, ground := Go.Ground.phase }, { on := 12, ground := Go.Ground.phase }, { on := 13, ground := Go.Ground.phase }, { on := 14, ground := Go.Ground.phase }, { on := 15, ground := Go.Ground.phase }, { on := 16, ground := Go.Ground.phase }, { on := 17, ground := Go.Ground.phase }, { on := 18, ground := Go.Ground.phase }, { on := 19, ground := Go.Ground.phase }, { on := 20, ground := Go.Ground.phase }, { on := 21, ground := Go.Ground.phase }, { on := 22, ground := Go.Ground.phase }, { on := 23, ground := Go.Ground.phase }, { on := 24, ground := Go.Ground.phase }, { on := 25, ground := Go.Ground.phase }, { on := 26, ground := Go.Ground.phase }, { on := 27, ground := Go.Ground.phase }, { on := 28, ground := Go.Ground.phase }, { on := 29, ground := Go.Ground.textOnly Go.Departure.lateStores }], guard := none },
  { dst := none, op := Go.Op.store 67 (Go.Operand.tmp 58) (Go.Operand.tmp 56), type := 0, pos := "scan.go:163", after := #[{ on := 30, ground := Go.Ground.data }, { on := 28, ground := Go.Ground.data }, { on := 26, ground := Go.Ground.chain }, { on := 0, ground := Go.Ground.phase }, { on := 1, ground := Go.Ground.phase }, { on := 2, ground := Go.Ground.phase }, { on := 3, ground := Go.Ground.phase }, { on := 4, ground := Go.Ground.phase }, { on := 5, ground := Go.Ground.phase }, { on := 6, ground := Go.Ground.phase }, { on := 7, ground := Go.Ground.phase }, { on := 8, ground := Go.Ground.phase }, { on := 9, ground := Go.Ground.phase }, { on := 10, ground := Go.Ground.phase }, { on := 11, ground := Go.Ground.phase }, { on := 12, ground := Go.Ground.phase }, { on := 13, ground := Go.Ground.phase }, { on := 14, ground := Go.Ground.phase }, { on := 15, ground := Go.Ground.phase }, { on := 16, ground := Go.Ground.phase }, { on := 17, ground := Go.Ground.phase }, { on := 18, ground := Go.Ground.phase }, { on := 19, ground := Go.Ground.phase }, { on := 20, ground := Go.Ground.phase }, { on := 21, ground := Go.Ground.phase }, { on := 22, ground := Go.Ground.phase }, { on := 23, ground := Go.Ground.phase }, { on := 24, ground := Go.Ground.phase }, { on := 25, ground := Go.Ground.phase }, { on := 26, ground := Go.Ground.phase }, { on := 27, ground := Go.Ground.phase }, { on := 28, ground := Go.Ground.phase }, { on := 29, ground := Go.Ground.textOnly Go.Departure.lateStores }], guard := none }]
def rF (X J g k nb q n0 : Nat) (now er : Int) (sv tl : Value) (b b' : GBlock) : List Claim := [(0, [], 29, .val (.pointer (some ⟨X, 0, none⟩))), (1, [], 30, .val (.pointer (some ⟨X, 0, none⟩))), (2, [], 31, .val (.pointer (some ⟨X, 4, none⟩))), (3, [], 32, .val (.pointer (some ⟨X, 5, none⟩))), (4, [], 33, .val (.slice (some ⟨g, 0, none⟩) nb q)), (5, [], 34, .val (.pointer (some ⟨J, 2, none⟩))), (6, [], 35, .val (.int .i64 (k : Int))), (7, [], 36, .val (.pointer (some ⟨X, 0, none⟩))), (8, [], 37, .val (.pointer (some ⟨X, 0, none⟩))), (9, [], 38, .val (.pointer (some ⟨X, 4, none⟩))), (10, [], 39, .val (.pointer (some ⟨X, 5, none⟩))), (11, [], 40, .val (.slice (some ⟨g, 0, none⟩) nb q)), (12, [], 41, .val (.pointer (some ⟨J, 2, none⟩))), (13, [], 42, .val (.int .i64 (k : Int))), (14, [], 43, .val (.pointer (some ⟨g, k * 10, none⟩))), (15, [], 44, .val (vBlk b)), (16, [], 45, .val (.pointer (some ⟨X, 0, none⟩))), (17, [], 46, .val (.pointer (some ⟨X, 0, none⟩))), (18, [], 47, .val (.pointer (some ⟨X, 6, none⟩))), (19, [], 48, .val (sv)), (20, [], 49, .val (.int .i64 (n0 : Int))), (21, [], 50, .val (tl)), (22, [], 51, .val (.pointer (some ⟨X, 0, none⟩))), (23, [], 52, .val (.pointer (some ⟨X, 0, none⟩))), (24, [], 53, .val (.pointer (some ⟨X, 9, none⟩))), (25, [], 54, .val (.int .i64 now)), (26, [], 55, .val (.tuple #[vBlk b', .int .i64 er])), (27, [], 28, .val (.tuple #[vBlk b', .int .i64 er])), (28, [], 56, .val (vBlk b')), (29, [], 57, .val (.int .i64 er)), (30, [], 58, .val (.pointer (some ⟨g, k * 10, none⟩)))]
def rD : List (Nat × Nat) := [(1, 0), (2, 1), (3, 2), (4, 3), (6, 5), (8, 7), (9, 8), (10, 9), (11, 10), (13, 12), (14, 11), (14, 13), (15, 14), (17, 16), (18, 17), (19, 18), (21, 19), (21, 20), (23, 22), (24, 23), (25, 24), (26, 15), (26, 21), (26, 25), (27, 26), (28, 27), (29, 27), (30, 4), (30, 6), (31, 28), (31, 30)]
def rFix (X J n0 : Nat) (x1 x2 x4 x5 x7 x8 x9 x10 x11 x12 x13 x14 x15 x16 x17 x18 x19 x20 x21 x22 x23 x24 x25 x26 x27 x59 x60 x61 x62 x63 x64 x65 x66 x67 : Value) : List (Nat × Value) := [(0, .pointer (some ⟨X, 0, none⟩)), (1, x1), (2, x2), (3, .pointer (some ⟨J, 0, none⟩)), (4, x4), (5, x5), (6, .int .i64 (n0 : Int)), (7, x7), (8, x8), (9, x9), (10, x10), (11, x11), (12, x12), (13, x13), (14, x14), (15, x15), (16, x16), (17, x17), (18, x18), (19, x19), (20, x20), (21, x21), (22, x22), (23, x23), (24, x24), (25, x25), (26, x26), (27, x27), (59, x59), (60, x60), (61, x61), (62, x62), (63, x63), (64, x64), (65, x65), (66, x66), (67, x67)]
theorem rF_fine (X J g k nb q n0 : Nat) (now er : Int) (sv tl : Value) (b b' : GBlock) : ∀ x ∈ rF X J g k nb q n0 now er sv tl b b', x.2.2.2.Fine := by
  intro x hx
  simp only [rF, List.mem_cons, List.not_mem_nil, or_false] at hx
  rcases hx with rfl | rfl | rfl | rfl | rfl | rfl | rfl | rfl | rfl | rfl | rfl | rfl | rfl | rfl | rfl | rfl | rfl | rfl | rfl | rfl | rfl | rfl | rfl | rfl | rfl | rfl | rfl | rfl | rfl | rfl | rfl
  all_goals trivial
structure RCtx (X J g k nb q n0 : Nat) (now er : Int) (sv tl : Value) (b b' : GBlock) (w0 : World) : Prop where
  cB : w0.cell? ⟨X, 5, none⟩ = some (.slice (some ⟨g, 0, none⟩) nb q)
  cI : w0.cell? ⟨J, 2, none⟩ = some (.int .i64 (k : Int))
  cS : w0.cell? ⟨X, 6, none⟩ = some sv
  cN : w0.cell? ⟨X, 9, none⟩ = some (.int .i64 now)
  cells : ∀ i u, (encBlk b)[i]? = some u → w0.cell? ⟨g, k * 10 + i, none⟩ = some u
  row : ∃ cs, w0.heap[g]? = some (.cells cs 67 (0, 0))
  hk : (k : Int) < (nb : Int)
  tail : ∀ W, (Instr.slice 31 sv (some (.int .i64 (n0 : Int))) none none).run Try.prog W = .ok tl W
  run : ∀ W, Below w0.heap.size w0 W → Calls Try.prog 135 #[vBlk b, tl, .int .i64 now] W fun e w' => e = .returned (.tuple #[vBlk b', .int .i64 er]) ∧ Below W.heap.size W w'
theorem RegSt.mark {F : List Claim} {D : List (Nat × Nat)} {fix : List (Nat × Value)} {B0 : Nat} {w0 : World} {n : Nat} {b : Nat → Bool} {a : Act} {w : World} (h : RegSt F D fix B0 w0 n b a w) (i : Nat) (hF : F.all (fun x => x.1 != i && x.2.1.isEmpty) = true) (hD : ∀ y ∈ D, y.1 = i → b y.2 = true) : RegSt F D fix B0 w0 n (ub b i) a w where
  defers := h.defers
  size := h.size
  fixed := h.fixed
  bel := h.bel
  f x hx hbx _ := by
    have h1 := List.all_eq_true.1 hF x hx
    simp only [Bool.and_eq_true, bne_iff_ne, List.isEmpty_iff] at h1
    rw [ub_ne h1.1] at hbx
    exact h.f x hx hbx (by rw [h1.2]; intro c hc; cases hc)
  dep y hy hby := by
    by_cases e : y.1 = i
    · exact ub_of (hD y hy e)
    · rw [ub_ne e] at hby
      exact ub_of (h.dep y hy hby)
def RI (X J g k nb q n0 : Nat) (now er : Int) (sv tl : Value) (b b' : GBlock) (x1 x2 x4 x5 x7 x8 x9 x10 x11 x12 x13 x14 x15 x16 x17 x18 x19 x20 x21 x22 x23 x24 x25 x26 x27 x59 x60 x61 x62 x63 x64 x65 x66 x67 : Value) (w0 : World) (bb : Nat → Bool) (a : Act) (w : World) : Prop := ∃ w1, RegSt (rF X J g k nb q n0 now er sv tl b b') rD (rFix X J n0 x1 x2 x4 x5 x7 x8 x9 x10 x11 x12 x13 x14 x15 x16 x17 x18 x19 x20 x21 x22 x23 x24 x25 x26 x27 x59 x60 x61 x62 x63 x64 x65 x66 x67) w0.heap.size w0 68 bb a w1 ∧ (bb 31 = false → w = w1) ∧ (bb 31 = true → w = setBlk w1 g (k * 10) b')
def RStep (X J g k nb q n0 : Nat) (now er : Int) (sv tl : Value) (b b' : GBlock) (x1 x2 x4 x5 x7 x8 x9 x10 x11 x12 x13 x14 x15 x16 x17 x18 x19 x20 x21 x22 x23 x24 x25 x26 x27 x59 x60 x61 x62 x63 x64 x65 x66 x67 : Value) (w0 : World) (Q : Exit → Act → World → Prop) (i : Nat) : Prop := ∀ bb a w, RI X J g k nb q n0 now er sv tl b b' x1 x2 x4 x5 x7 x8 x9 x10 x11 x12 x13 x14 x15 x16 x17 x18 x19 x20 x21 x22 x23 x24 x25 x26 x27 x59 x60 x61 x62 x63 x64 x65 x66 x67 w0 bb a w → bb i = false → (∀ o, rOps[i]? = some o → ∀ e ∈ o.after, Region.binds .any e = true → bb e.on = true) → wpOp Try.prog rOps Q i (RI X J g k nb q n0 now er sv tl b b' x1 x2 x4 x5 x7 x8 x9 x10 x11 x12 x13 x14 x15 x16 x17 x18 x19 x20 x21 x22 x23 x24 x25 x26 x27 x59 x60 x61 x62 x63 x64 x65 x66 x67 w0 (ub bb i)) a w
section
variable {X J g k nb q n0 : Nat} {now er : Int} {sv tl : Value} {b b' : GBlock} {x1 x2 x4 x5 x7 x8 x9 x10 x11 x12 x13 x14 x15 x16 x17 x18 x19 x20 x21 x22 x23 x24 x25 x26 x27 x59 x60 x61 x62 x63 x64 x65 x66 x67 : Value} {w0 : World} {Q : Exit → Act → World → Prop}
def ro0 : Oper := { dst := some 29, op := Go.Op.move (Go.Operand.tmp 0), type := 110, pos := "scan.go:163", after := #[], guard := none }
theorem rstep0 (_ : RCtx X J g k nb q n0 now er sv tl b b' w0) : RStep X J g k nb q n0 now er sv tl b b' x1 x2 x4 x5 x7 x8 x9 x10 x11 x12 x13 x14 x15 x16 x17 x18 x19 x20 x21 x22 x23 x24 x25 x26 x27 x59 x60 x61 x62 x63 x64 x65 x66 x67 w0 Q 0 := by
  intro bb a w h hb hdep
  obtain ⟨w1, h, hw0, hw1⟩ := h
  have e0 : a.eval (.tmp 0) = .pointer (some ⟨X, 0, none⟩) := h.fixed (0, .pointer (some ⟨X, 0, none⟩)) (by simp [rFix])
  have hr : (execOp a.eval ro0).run Try.prog w = .ok (.value (.pointer (some ⟨X, 0, none⟩))) w := by
    simp only [execOp, ro0, e0]
    go_simp
  refine wpOp_of (o := ro0) rfl rfl ?_
  unfold Oper.wp
  rw [hr]
  exact ⟨w1, h.put 0 29 _ none (Nat.le_refl _) (rF_fine _ _ _ _ _ _ _ _ _ _ _ _ _) hb (.new (Below.refl _ _)) rfl rfl rfl (by decide) (by simp [rD]) (by simp [rF, Spec.holds]), fun e => hw0 (by rwa [ub_ne (by decide)] at e), fun e => hw1 (by rwa [ub_ne (by decide)] at e)⟩
def ro1 : Oper := { dst := some 30, op := Go.Op.nilCheck (Go.Operand.tmp 29), type := 0, pos := "scan.go:163", after := #[{ on := 0, ground := Go.Ground.data }], guard := none }
theorem rstep1 (_ : RCtx X J g k nb q n0 now er sv tl b b' w0) : RStep X J g k nb q n0 now er sv tl b b' x1 x2 x4 x5 x7 x8 x9 x10 x11 x12 x13 x14 x15 x16 x17 x18 x19 x20 x21 x22 x23 x24 x25 x26 x27 x59 x60 x61 x62 x63 x64 x65 x66 x67 w0 Q 1 := by
  intro bb a w h hb hdep
  obtain ⟨w1, h, hw0, hw1⟩ := h
  have d0 : bb 0 = true := hdep ro1 rfl { on := 0, ground := .data } (by simp [ro1]) rfl
  have e29 : a.eval (.tmp 29) = .pointer (some ⟨X, 0, none⟩) := h.got (i := 0) (cs := []) (s := .val (.pointer (some ⟨X, 0, none⟩))) (by simp [rF]) d0 (by simp)
  have hr : (execOp a.eval ro1).run Try.prog w = .ok (.value (.pointer (some ⟨X, 0, none⟩))) w := by
    simp only [execOp, ro1, e29]
    go_simp
  refine wpOp_of (o := ro1) rfl rfl ?_
  unfold Oper.wp
  rw [hr]
  exact ⟨w1, h.put 1 30 _ none (Nat.le_refl _) (rF_fine _ _ _ _ _ _ _ _ _ _ _ _ _) hb (.new (Below.refl _ _)) rfl rfl rfl (by decide) (by simp [rD, d0]) (by simp [rF, Spec.holds]), fun e => hw0 (by rwa [ub_ne (by decide)] at e), fun e => hw1 (by rwa [ub_ne (by decide)] at e)⟩
def ro2 : Oper := { dst := some 31, op := Go.Op.fieldAddr 112 (Go.Operand.tmp 30) 1, type := 0, pos := "scan.go:163", after := #[{ on := 1, ground := Go.Ground.data }], guard := none }
theorem rstep2 (_ : RCtx X J g k nb q n0 now er sv tl b b' w0) : RStep X J g k nb q n0 now er sv tl b b' x1 x2 x4 x5 x7 x8 x9 x10 x11 x12 x13 x14 x15 x16 x17 x18 x19 x20 x21 x22 x23 x24 x25 x26 x27 x59 x60 x61 x62 x63 x64 x65 x66 x67 w0 Q 2 := by
  intro bb a w h hb hdep
  obtain ⟨w1, h, hw0, hw1⟩ := h
  have d1 : bb 1 = true := hdep ro2 rfl { on := 1, ground := .data } (by simp [ro2]) rfl
  have e30 : a.eval (.tmp 30) = .pointer (some ⟨X, 0, none⟩) := h.got (i := 1) (cs := []) (s := .val (.pointer (some ⟨X, 0, none⟩))) (by simp [rF]) d1 (by simp)
  have hr : (execOp a.eval ro2).run Try.prog w = .ok (.value (.pointer (some ⟨X, 4, none⟩))) w := by
    simp only [execOp, ro2, e30]
    go_simp
  refine wpOp_of (o := ro2) rfl rfl ?_
  unfold Oper.wp
  rw [hr]
  exact ⟨w1, h.put 2 31 _ none (Nat.le_refl _) (rF_fine _ _ _ _ _ _ _ _ _ _ _ _ _) hb (.new (Below.refl _ _)) rfl rfl rfl (by decide) (by simp [rD, d1]) (by simp [rF, Spec.holds]), fun e => hw0 (by rwa [ub_ne (by decide)] at e), fun e => hw1 (by rwa [ub_ne (by decide)] at e)⟩
def ro3 : Oper := { dst := some 32, op := Go.Op.fieldAddr 34 (Go.Operand.tmp 31) 1, type := 0, pos := "scan.go:163", after := #[{ on := 2, ground := Go.Ground.data }], guard := none }
theorem rstep3 (_ : RCtx X J g k nb q n0 now er sv tl b b' w0) : RStep X J g k nb q n0 now er sv tl b b' x1 x2 x4 x5 x7 x8 x9 x10 x11 x12 x13 x14 x15 x16 x17 x18 x19 x20 x21 x22 x23 x24 x25 x26 x27 x59 x60 x61 x62 x63 x64 x65 x66 x67 w0 Q 3 := by
  intro bb a w h hb hdep
  obtain ⟨w1, h, hw0, hw1⟩ := h
  have d2 : bb 2 = true := hdep ro3 rfl { on := 2, ground := .data } (by simp [ro3]) rfl
  have e31 : a.eval (.tmp 31) = .pointer (some ⟨X, 4, none⟩) := h.got (i := 2) (cs := []) (s := .val (.pointer (some ⟨X, 4, none⟩))) (by simp [rF]) d2 (by simp)
  have hr : (execOp a.eval ro3).run Try.prog w = .ok (.value (.pointer (some ⟨X, 5, none⟩))) w := by
    simp only [execOp, ro3, e31]
    go_simp
  refine wpOp_of (o := ro3) rfl rfl ?_
  unfold Oper.wp
  rw [hr]
  exact ⟨w1, h.put 3 32 _ none (Nat.le_refl _) (rF_fine _ _ _ _ _ _ _ _ _ _ _ _ _) hb (.new (Below.refl _ _)) rfl rfl rfl (by decide) (by simp [rD, d2]) (by simp [rF, Spec.holds]), fun e => hw0 (by rwa [ub_ne (by decide)] at e), fun e => hw1 (by rwa [ub_ne (by decide)] at e)⟩
def ro4 : Oper := { dst := some 33, op := Go.Op.load 32 (Go.Operand.tmp 32), type := 32, pos := "scan.go:163", after := #[{ on := 3, ground := Go.Ground.data }], guard := none }
theorem rstep4 (C : RCtx X J g k nb q n0 now er sv tl b b' w0) : RStep X J g k nb q n0 now er sv tl b b' x1 x2 x4 x5 x7 x8 x9 x10 x11 x12 x13 x14 x15 x16 x17 x18 x19 x20 x21 x22 x23 x24 x25 x26 x27 x59 x60 x61 x62 x63 x64 x65 x66 x67 w0 Q 4 := by
  intro bb a w h hb hdep
  obtain ⟨w1, h, hw0, hw1⟩ := h
  have d3 : bb 3 = true := hdep ro4 rfl { on := 3, ground := .data } (by simp [ro4]) rfl
  have e32 : a.eval (.tmp 32) = .pointer (some ⟨X, 5, none⟩) := h.got (i := 3) (cs := []) (s := .val (.pointer (some ⟨X, 5, none⟩))) (by simp [rF]) d3 (by simp)
  have h31 : bb 31 = false := by
    cases e31 : bb 31 with
    | false => rfl
    | true =>
      have e30 := h.dep (31, 30) (by simp [rD]) e31
      have e4 := h.dep (30, 4) (by simp [rD]) e30
      rw [hb] at e4; cases e4
  obtain rfl := hw0 h31
  have c0 := cell_below h.bel _ _ C.cB
  have hr : (execOp a.eval ro4).run Try.prog w = .ok (.value (.slice (some ⟨g, 0, none⟩) nb q)) w := by
    simp only [execOp, ro4, e32]
    go_simp
  refine wpOp_of (o := ro4) rfl rfl ?_
  unfold Oper.wp
  rw [hr]
  exact ⟨w, h.put 4 33 _ none (Nat.le_refl _) (rF_fine _ _ _ _ _ _ _ _ _ _ _ _ _) hb (.new (Below.refl _ _)) rfl rfl rfl (by decide) (by simp [rD, d3]) (by simp [rF, Spec.holds]), fun _ => rfl, fun e => by rw [ub_ne (by decide), h31] at e; cases e⟩
def ro5 : Oper := { dst := some 34, op := Go.Op.fieldAddr 49 (Go.Operand.tmp 3) 2, type := 0, pos := "scan.go:163", after := #[], guard := none }
theorem rstep5 (_ : RCtx X J g k nb q n0 now er sv tl b b' w0) : RStep X J g k nb q n0 now er sv tl b b' x1 x2 x4 x5 x7 x8 x9 x10 x11 x12 x13 x14 x15 x16 x17 x18 x19 x20 x21 x22 x23 x24 x25 x26 x27 x59 x60 x61 x62 x63 x64 x65 x66 x67 w0 Q 5 := by
  intro bb a w h hb hdep
  obtain ⟨w1, h, hw0, hw1⟩ := h
  have e3 : a.eval (.tmp 3) = .pointer (some ⟨J, 0, none⟩) := h.fixed (3, .pointer (some ⟨J, 0, none⟩)) (by simp [rFix])
  have hr : (execOp a.eval ro5).run Try.prog w = .ok (.value (.pointer (some ⟨J, 2, none⟩))) w := by
    simp only [execOp, ro5, e3]
    go_simp
  refine wpOp_of (o := ro5) rfl rfl ?_
  unfold Oper.wp
  rw [hr]
  exact ⟨w1, h.put 5 34 _ none (Nat.le_refl _) (rF_fine _ _ _ _ _ _ _ _ _ _ _ _ _) hb (.new (Below.refl _ _)) rfl rfl rfl (by decide) (by simp [rD]) (by simp [rF, Spec.holds]), fun e => hw0 (by rwa [ub_ne (by decide)] at e), fun e => hw1 (by rwa [ub_ne (by decide)] at e)⟩
def ro6 : Oper := { dst := some 35, op := Go.Op.load 3 (Go.Operand.tmp 34), type := 3, pos := "scan.go:163", after := #[{ on := 5, ground := Go.Ground.data }], guard := none }
theorem rstep6 (C : RCtx X J g k nb q n0 now er sv tl b b' w0) : RStep X J g k nb q n0 now er sv tl b b' x1 x2 x4 x5 x7 x8 x9 x10 x11 x12 x13 x14 x15 x16 x17 x18 x19 x20 x21 x22 x23 x24 x25 x26 x27 x59 x60 x61 x62 x63 x64 x65 x66 x67 w0 Q 6 := by
  intro bb a w h hb hdep
  obtain ⟨w1, h, hw0, hw1⟩ := h
  have d5 : bb 5 = true := hdep ro6 rfl { on := 5, ground := .data } (by simp [ro6]) rfl
  have e34 : a.eval (.tmp 34) = .pointer (some ⟨J, 2, none⟩) := h.got (i := 5) (cs := []) (s := .val (.pointer (some ⟨J, 2, none⟩))) (by simp [rF]) d5 (by simp)
  have h31 : bb 31 = false := by
    cases e31 : bb 31 with
    | false => rfl
    | true =>
      have e30 := h.dep (31, 30) (by simp [rD]) e31
      have e6 := h.dep (30, 6) (by simp [rD]) e30
      rw [hb] at e6; cases e6
  obtain rfl := hw0 h31
  have c0 := cell_below h.bel _ _ C.cI
  have hr : (execOp a.eval ro6).run Try.prog w = .ok (.value (.int .i64 (k : Int))) w := by
    simp only [execOp, ro6, e34]
    go_simp
  refine wpOp_of (o := ro6) rfl rfl ?_
  unfold Oper.wp
  rw [hr]
  exact ⟨w, h.put 6 35 _ none (Nat.le_refl _) (rF_fine _ _ _ _ _ _ _ _ _ _ _ _ _) hb (.new (Below.refl _ _)) rfl rfl rfl (by decide) (by simp [rD, d5]) (by simp [rF, Spec.holds]), fun _ => rfl, fun e => by rw [ub_ne (by decide), h31] at e; cases e⟩
def ro7 : Oper := { dst := some 36, op := Go.Op.move (Go.Operand.tmp 0), type := 110, pos := "scan.go:163", after := #[], guard := none }
theorem rstep7 (_ : RCtx X J g k nb q n0 now er sv tl b b' w0) : RStep X J g k nb q n0 now er sv tl b b' x1 x2 x4 x5 x7 x8 x9 x10 x11 x12 x13 x14 x15 x16 x17 x18 x19 x20 x21 x22 x23 x24 x25 x26 x27 x59 x60 x61 x62 x63 x64 x65 x66 x67 w0 Q 7 := by
  intro bb a w h hb hdep
  obtain ⟨w1, h, hw0, hw1⟩ := h
  have e0 : a.eval (.tmp 0) = .pointer (some ⟨X, 0, none⟩) := h.fixed (0, .pointer (some ⟨X, 0, none⟩)) (by simp [rFix])
  have hr : (execOp a.eval ro7).run Try.prog w = .ok (.value (.pointer (some ⟨X, 0, none⟩))) w := by
    simp only [execOp, ro7, e0]
    go_simp
  refine wpOp_of (o := ro7) rfl rfl ?_
  unfold Oper.wp
  rw [hr]
  exact ⟨w1, h.put 7 36 _ none (Nat.le_refl _) (rF_fine _ _ _ _ _ _ _ _ _ _ _ _ _) hb (.new (Below.refl _ _)) rfl rfl rfl (by decide) (by simp [rD]) (by simp [rF, Spec.holds]), fun e => hw0 (by rwa [ub_ne (by decide)] at e), fun e => hw1 (by rwa [ub_ne (by decide)] at e)⟩
def ro8 : Oper := { dst := some 37, op := Go.Op.nilCheck (Go.Operand.tmp 36), type := 0, pos := "scan.go:163", after := #[{ on := 7, ground := Go.Ground.data }], guard := none }
theorem rstep8 (_ : RCtx X J g k nb q n0 now er sv tl b b' w0) : RStep X J g k nb q n0 now er sv tl b b' x1 x2 x4 x5 x7 x8 x9 x10 x11 x12 x13 x14 x15 x16 x17 x18 x19 x20 x21 x22 x23 x24 x25 x26 x27 x59 x60 x61 x62 x63 x64 x65 x66 x67 w0 Q 8 := by
  intro bb a w h hb hdep
  obtain ⟨w1, h, hw0, hw1⟩ := h
  have d7 : bb 7 = true := hdep ro8 rfl { on := 7, ground := .data } (by simp [ro8]) rfl
  have e36 : a.eval (.tmp 36) = .pointer (some ⟨X, 0, none⟩) := h.got (i := 7) (cs := []) (s := .val (.pointer (some ⟨X, 0, none⟩))) (by simp [rF]) d7 (by simp)
  have hr : (execOp a.eval ro8).run Try.prog w = .ok (.value (.pointer (some ⟨X, 0, none⟩))) w := by
    simp only [execOp, ro8, e36]
    go_simp
  refine wpOp_of (o := ro8) rfl rfl ?_
  unfold Oper.wp
  rw [hr]
  exact ⟨w1, h.put 8 37 _ none (Nat.le_refl _) (rF_fine _ _ _ _ _ _ _ _ _ _ _ _ _) hb (.new (Below.refl _ _)) rfl rfl rfl (by decide) (by simp [rD, d7]) (by simp [rF, Spec.holds]), fun e => hw0 (by rwa [ub_ne (by decide)] at e), fun e => hw1 (by rwa [ub_ne (by decide)] at e)⟩
def ro9 : Oper := { dst := some 38, op := Go.Op.fieldAddr 112 (Go.Operand.tmp 37) 1, type := 0, pos := "scan.go:163", after := #[{ on := 8, ground := Go.Ground.data }], guard := none }
theorem rstep9 (_ : RCtx X J g k nb q n0 now er sv tl b b' w0) : RStep X J g k nb q n0 now er sv tl b b' x1 x2 x4 x5 x7 x8 x9 x10 x11 x12 x13 x14 x15 x16 x17 x18 x19 x20 x21 x22 x23 x24 x25 x26 x27 x59 x60 x61 x62 x63 x64 x65 x66 x67 w0 Q 9 := by
  intro bb a w h hb hdep
  obtain ⟨w1, h, hw0, hw1⟩ := h
  have d8 : bb 8 = true := hdep ro9 rfl { on := 8, ground := .data } (by simp [ro9]) rfl
  have e37 : a.eval (.tmp 37) = .pointer (some ⟨X, 0, none⟩) := h.got (i := 8) (cs := []) (s := .val (.pointer (some ⟨X, 0, none⟩))) (by simp [rF]) d8 (by simp)
  have hr : (execOp a.eval ro9).run Try.prog w = .ok (.value (.pointer (some ⟨X, 4, none⟩))) w := by
    simp only [execOp, ro9, e37]
    go_simp
  refine wpOp_of (o := ro9) rfl rfl ?_
  unfold Oper.wp
  rw [hr]
  exact ⟨w1, h.put 9 38 _ none (Nat.le_refl _) (rF_fine _ _ _ _ _ _ _ _ _ _ _ _ _) hb (.new (Below.refl _ _)) rfl rfl rfl (by decide) (by simp [rD, d8]) (by simp [rF, Spec.holds]), fun e => hw0 (by rwa [ub_ne (by decide)] at e), fun e => hw1 (by rwa [ub_ne (by decide)] at e)⟩
def ro10 : Oper := { dst := some 39, op := Go.Op.fieldAddr 34 (Go.Operand.tmp 38) 1, type := 0, pos := "scan.go:163", after := #[{ on := 9, ground := Go.Ground.data }], guard := none }
theorem rstep10 (_ : RCtx X J g k nb q n0 now er sv tl b b' w0) : RStep X J g k nb q n0 now er sv tl b b' x1 x2 x4 x5 x7 x8 x9 x10 x11 x12 x13 x14 x15 x16 x17 x18 x19 x20 x21 x22 x23 x24 x25 x26 x27 x59 x60 x61 x62 x63 x64 x65 x66 x67 w0 Q 10 := by
  intro bb a w h hb hdep
  obtain ⟨w1, h, hw0, hw1⟩ := h
  have d9 : bb 9 = true := hdep ro10 rfl { on := 9, ground := .data } (by simp [ro10]) rfl
  have e38 : a.eval (.tmp 38) = .pointer (some ⟨X, 4, none⟩) := h.got (i := 9) (cs := []) (s := .val (.pointer (some ⟨X, 4, none⟩))) (by simp [rF]) d9 (by simp)
  have hr : (execOp a.eval ro10).run Try.prog w = .ok (.value (.pointer (some ⟨X, 5, none⟩))) w := by
    simp only [execOp, ro10, e38]
    go_simp
  refine wpOp_of (o := ro10) rfl rfl ?_
  unfold Oper.wp
  rw [hr]
  exact ⟨w1, h.put 10 39 _ none (Nat.le_refl _) (rF_fine _ _ _ _ _ _ _ _ _ _ _ _ _) hb (.new (Below.refl _ _)) rfl rfl rfl (by decide) (by simp [rD, d9]) (by simp [rF, Spec.holds]), fun e => hw0 (by rwa [ub_ne (by decide)] at e), fun e => hw1 (by rwa [ub_ne (by decide)] at e)⟩
def ro11 : Oper := { dst := some 40, op := Go.Op.load 32 (Go.Operand.tmp 39), type := 32, pos := "scan.go:163", after := #[{ on := 10, ground := Go.Ground.data }], guard := none }
theorem rstep11 (C : RCtx X J g k nb q n0 now er sv tl b b' w0) : RStep X J g k nb q n0 now er sv tl b b' x1 x2 x4 x5 x7 x8 x9 x10 x11 x12 x13 x14 x15 x16 x17 x18 x19 x20 x21 x22 x23 x24 x25 x26 x27 x59 x60 x61 x62 x63 x64 x65 x66 x67 w0 Q 11 := by
  intro bb a w h hb hdep
  obtain ⟨w1, h, hw0, hw1⟩ := h
  have d10 : bb 10 = true := hdep ro11 rfl { on := 10, ground := .data } (by simp [ro11]) rfl
  have e39 : a.eval (.tmp 39) = .pointer (some ⟨X, 5, none⟩) := h.got (i := 10) (cs := []) (s := .val (.pointer (some ⟨X, 5, none⟩))) (by simp [rF]) d10 (by simp)
  have h31 : bb 31 = false := by
    cases e31 : bb 31 with
    | false => rfl
    | true =>
      have e28 := h.dep (31, 28) (by simp [rD]) e31
      have e27 := h.dep (28, 27) (by simp [rD]) e28
      have e26 := h.dep (27, 26) (by simp [rD]) e27
      have e15 := h.dep (26, 15) (by simp [rD]) e26
      have e14 := h.dep (15, 14) (by simp [rD]) e15
      have e11 := h.dep (14, 11) (by simp [rD]) e14
      rw [hb] at e11; cases e11
  obtain rfl := hw0 h31
  have c0 := cell_below h.bel _ _ C.cB
  have hr : (execOp a.eval ro11).run Try.prog w = .ok (.value (.slice (some ⟨g, 0, none⟩) nb q)) w := by
    simp only [execOp, ro11, e39]
    go_simp
  refine wpOp_of (o := ro11) rfl rfl ?_
  unfold Oper.wp
  rw [hr]
  exact ⟨w, h.put 11 40 _ none (Nat.le_refl _) (rF_fine _ _ _ _ _ _ _ _ _ _ _ _ _) hb (.new (Below.refl _ _)) rfl rfl rfl (by decide) (by simp [rD, d10]) (by simp [rF, Spec.holds]), fun _ => rfl, fun e => by rw [ub_ne (by decide), h31] at e; cases e⟩
def ro12 : Oper := { dst := some 41, op := Go.Op.fieldAddr 49 (Go.Operand.tmp 3) 2, type := 0, pos := "scan.go:163", after := #[], guard := none }
theorem rstep12 (_ : RCtx X J g k nb q n0 now er sv tl b b' w0) : RStep X J g k nb q n0 now er sv tl b b' x1 x2 x4 x5 x7 x8 x9 x10 x11 x12 x13 x14 x15 x16 x17 x18 x19 x20 x21 x22 x23 x24 x25 x26 x27 x59 x60 x61 x62 x63 x64 x65 x66 x67 w0 Q 12 := by
  intro bb a w h hb hdep
  obtain ⟨w1, h, hw0, hw1⟩ := h
  have e3 : a.eval (.tmp 3) = .pointer (some ⟨J, 0, none⟩) := h.fixed (3, .pointer (some ⟨J, 0, none⟩)) (by simp [rFix])
  have hr : (execOp a.eval ro12).run Try.prog w = .ok (.value (.pointer (some ⟨J, 2, none⟩))) w := by
    simp only [execOp, ro12, e3]
    go_simp
  refine wpOp_of (o := ro12) rfl rfl ?_
  unfold Oper.wp
  rw [hr]
  exact ⟨w1, h.put 12 41 _ none (Nat.le_refl _) (rF_fine _ _ _ _ _ _ _ _ _ _ _ _ _) hb (.new (Below.refl _ _)) rfl rfl rfl (by decide) (by simp [rD]) (by simp [rF, Spec.holds]), fun e => hw0 (by rwa [ub_ne (by decide)] at e), fun e => hw1 (by rwa [ub_ne (by decide)] at e)⟩
def ro13 : Oper := { dst := some 42, op := Go.Op.load 3 (Go.Operand.tmp 41), type := 3, pos := "scan.go:163", after := #[{ on := 12, ground := Go.Ground.data }], guard := none }
theorem rstep13 (C : RCtx X J g k nb q n0 now er sv tl b b' w0) : RStep X J g k nb q n0 now er sv tl b b' x1 x2 x4 x5 x7 x8 x9 x10 x11 x12 x13 x14 x15 x16 x17 x18 x19 x20 x21 x22 x23 x24 x25 x26 x27 x59 x60 x61 x62 x63 x64 x65 x66 x67 w0 Q 13 := by
  intro bb a w h hb hdep
  obtain ⟨w1, h, hw0, hw1⟩ := h
  have d12 : bb 12 = true := hdep ro13 rfl { on := 12, ground := .data } (by simp [ro13]) rfl
  have e41 : a.eval (.tmp 41) = .pointer (some ⟨J, 2, none⟩) := h.got (i := 12) (cs := []) (s := .val (.pointer (some ⟨J, 2, none⟩))) (by simp [rF]) d12 (by simp)
  have h31 : bb 31 = false := by
    cases e31 : bb 31 with
    | false => rfl
    | true =>
      have e28 := h.dep (31, 28) (by simp [rD]) e31
      have e27 := h.dep (28, 27) (by simp [rD]) e28
      have e26 := h.dep (27, 26) (by simp [rD]) e27
      have e15 := h.dep (26, 15) (by simp [rD]) e26
      have e14 := h.dep (15, 14) (by simp [rD]) e15
      have e13 := h.dep (14, 13) (by simp [rD]) e14
      rw [hb] at e13; cases e13
  obtain rfl := hw0 h31
  have c0 := cell_below h.bel _ _ C.cI
  have hr : (execOp a.eval ro13).run Try.prog w = .ok (.value (.int .i64 (k : Int))) w := by
    simp only [execOp, ro13, e41]
    go_simp
  refine wpOp_of (o := ro13) rfl rfl ?_
  unfold Oper.wp
  rw [hr]
  exact ⟨w, h.put 13 42 _ none (Nat.le_refl _) (rF_fine _ _ _ _ _ _ _ _ _ _ _ _ _) hb (.new (Below.refl _ _)) rfl rfl rfl (by decide) (by simp [rD, d12]) (by simp [rF, Spec.holds]), fun _ => rfl, fun e => by rw [ub_ne (by decide), h31] at e; cases e⟩
def ro14 : Oper := { dst := some 43, op := Go.Op.indexAddr 32 (Go.Operand.tmp 40) (Go.Operand.tmp 42), type := 0, pos := "scan.go:163", after := #[{ on := 11, ground := Go.Ground.data }, { on := 13, ground := Go.Ground.data }], guard := none }
theorem rstep14 (C : RCtx X J g k nb q n0 now er sv tl b b' w0) : RStep X J g k nb q n0 now er sv tl b b' x1 x2 x4 x5 x7 x8 x9 x10 x11 x12 x13 x14 x15 x16 x17 x18 x19 x20 x21 x22 x23 x24 x25 x26 x27 x59 x60 x61 x62 x63 x64 x65 x66 x67 w0 Q 14 := by
  intro bb a w h hb hdep
  obtain ⟨w1, h, hw0, hw1⟩ := h
  have d11 : bb 11 = true := hdep ro14 rfl { on := 11, ground := .data } (by simp [ro14]) rfl
  have d13 : bb 13 = true := hdep ro14 rfl { on := 13, ground := .data } (by simp [ro14]) rfl
  have e40 : a.eval (.tmp 40) = .slice (some ⟨g, 0, none⟩) nb q := h.got (i := 11) (cs := []) (s := .val (.slice (some ⟨g, 0, none⟩) nb q)) (by simp [rF]) d11 (by simp)
  have e42 : a.eval (.tmp 42) = .int .i64 (k : Int) := h.got (i := 13) (cs := []) (s := .val (.int .i64 (k : Int))) (by simp [rF]) d13 (by simp)
  have hk := C.hk
  have hr : (execOp a.eval ro14).run Try.prog w = .ok (.value (.pointer (some ⟨g, k * 10, none⟩))) w := by
    simp only [execOp, ro14, e40, e42]
    go_simp
  refine wpOp_of (o := ro14) rfl rfl ?_
  unfold Oper.wp
  rw [hr]
  exact ⟨w1, h.put 14 43 _ none (Nat.le_refl _) (rF_fine _ _ _ _ _ _ _ _ _ _ _ _ _) hb (.new (Below.refl _ _)) rfl rfl rfl (by decide) (by simp [rD, d11, d13]) (by simp [rF, Spec.holds]), fun e => hw0 (by rwa [ub_ne (by decide)] at e), fun e => hw1 (by rwa [ub_ne (by decide)] at e)⟩
def ro15 : Oper := { dst := some 44, op := Go.Op.load 67 (Go.Operand.tmp 43), type := 67, pos := "scan.go:163", after := #[{ on := 14, ground := Go.Ground.data }], guard := none }
theorem rstep15 (C : RCtx X J g k nb q n0 now er sv tl b b' w0) : RStep X J g k nb q n0 now er sv tl b b' x1 x2 x4 x5 x7 x8 x9 x10 x11 x12 x13 x14 x15 x16 x17 x18 x19 x20 x21 x22 x23 x24 x25 x26 x27 x59 x60 x61 x62 x63 x64 x65 x66 x67 w0 Q 15 := by
  intro bb a w h hb hdep
  obtain ⟨w1, h, hw0, hw1⟩ := h
  have d14 : bb 14 = true := hdep ro15 rfl { on := 14, ground := .data } (by simp [ro15]) rfl
  have e43 : a.eval (.tmp 43) = .pointer (some ⟨g, k * 10, none⟩) := h.got (i := 14) (cs := []) (s := .val (.pointer (some ⟨g, k * 10, none⟩))) (by simp [rF]) d14 (by simp)
  have h31 : bb 31 = false := by
    cases e31 : bb 31 with
    | false => rfl
    | true =>
      have e28 := h.dep (31, 28) (by simp [rD]) e31
      have e27 := h.dep (28, 27) (by simp [rD]) e28
      have e26 := h.dep (27, 26) (by simp [rD]) e27
      have e15 := h.dep (26, 15) (by simp [rD]) e26
      rw [hb] at e15; cases e15
  obtain rfl := hw0 h31
  have q0 : w.cell? ⟨g, k * 10, none⟩ = some (.int .u8 b.kind) := cell_below h.bel _ _ (C.cells 0 _ rfl)
  have q1 : w.cell? ⟨g, k * 10 + 1, none⟩ = some (.bool b.w0) := cell_below h.bel _ _ (C.cells 1 _ rfl)
  have q2 : w.cell? ⟨g, k * 10 + 2, none⟩ = some (.bool b.w1) := cell_below h.bel _ _ (C.cells 2 _ rfl)
  have q3 : w.cell? ⟨g, k * 10 + 3, none⟩ = some (.bool b.ran) := cell_below h.bel _ _ (C.cells 3 _ rfl)
  have q4 : w.cell? ⟨g, k * 10 + 4, none⟩ = some (.bool b.going) := cell_below h.bel _ _ (C.cells 4 _ rfl)
  have q5 : w.cell? ⟨g, k * 10 + 5, none⟩ = some (.int .i64 b.frm) := cell_below h.bel _ _ (C.cells 5 _ rfl)
  have q6 : w.cell? ⟨g, k * 10 + 6, none⟩ = some (.int .i64 b.et) := cell_below h.bel _ _ (C.cells 6 _ rfl)
  have q7 : w.cell? ⟨g, k * 10 + 7, none⟩ = some (.int .i64 b.cv) := cell_below h.bel _ _ (C.cells 7 _ rfl)
  have q8 : w.cell? ⟨g, k * 10 + 8, none⟩ = some (.bool b.q) := cell_below h.bel _ _ (C.cells 8 _ rfl)
  have q9 : w.cell? ⟨g, k * 10 + 9, none⟩ = some (.bool b.p) := cell_below h.bel _ _ (C.cells 9 _ rfl)
  have hr : (execOp a.eval ro15).run Try.prog w = .ok (.value (vBlk b)) w := by
    unfold vBlk
    simp only [execOp, ro15, e43]
    go_simp
  refine wpOp_of (o := ro15) rfl rfl ?_
  unfold Oper.wp
  rw [hr]
  exact ⟨w, h.put 15 44 _ none (Nat.le_refl _) (rF_fine _ _ _ _ _ _ _ _ _ _ _ _ _) hb (.new (Below.refl _ _)) rfl rfl rfl (by decide) (by simp [rD, d14]) (by simp [rF, Spec.holds]), fun _ => rfl, fun e => by rw [ub_ne (by decide), h31] at e; cases e⟩
def ro16 : Oper := { dst := some 45, op := Go.Op.move (Go.Operand.tmp 0), type := 110, pos := "scan.go:163", after := #[], guard := none }
theorem rstep16 (_ : RCtx X J g k nb q n0 now er sv tl b b' w0) : RStep X J g k nb q n0 now er sv tl b b' x1 x2 x4 x5 x7 x8 x9 x10 x11 x12 x13 x14 x15 x16 x17 x18 x19 x20 x21 x22 x23 x24 x25 x26 x27 x59 x60 x61 x62 x63 x64 x65 x66 x67 w0 Q 16 := by
  intro bb a w h hb hdep
  obtain ⟨w1, h, hw0, hw1⟩ := h
  have e0 : a.eval (.tmp 0) = .pointer (some ⟨X, 0, none⟩) := h.fixed (0, .pointer (some ⟨X, 0, none⟩)) (by simp [rFix])
  have hr : (execOp a.eval ro16).run Try.prog w = .ok (.value (.pointer (some ⟨X, 0, none⟩))) w := by
    simp only [execOp, ro16, e0]
    go_simp
  refine wpOp_of (o := ro16) rfl rfl ?_
  unfold Oper.wp
  rw [hr]
  exact ⟨w1, h.put 16 45 _ none (Nat.le_refl _) (rF_fine _ _ _ _ _ _ _ _ _ _ _ _ _) hb (.new (Below.refl _ _)) rfl rfl rfl (by decide) (by simp [rD]) (by simp [rF, Spec.holds]), fun e => hw0 (by rwa [ub_ne (by decide)] at e), fun e => hw1 (by rwa [ub_ne (by decide)] at e)⟩
def ro17 : Oper := { dst := some 46, op := Go.Op.nilCheck (Go.Operand.tmp 45), type := 0, pos := "scan.go:163", after := #[{ on := 16, ground := Go.Ground.data }], guard := none }
theorem rstep17 (_ : RCtx X J g k nb q n0 now er sv tl b b' w0) : RStep X J g k nb q n0 now er sv tl b b' x1 x2 x4 x5 x7 x8 x9 x10 x11 x12 x13 x14 x15 x16 x17 x18 x19 x20 x21 x22 x23 x24 x25 x26 x27 x59 x60 x61 x62 x63 x64 x65 x66 x67 w0 Q 17 := by
  intro bb a w h hb hdep
  obtain ⟨w1, h, hw0, hw1⟩ := h
  have d16 : bb 16 = true := hdep ro17 rfl { on := 16, ground := .data } (by simp [ro17]) rfl
  have e45 : a.eval (.tmp 45) = .pointer (some ⟨X, 0, none⟩) := h.got (i := 16) (cs := []) (s := .val (.pointer (some ⟨X, 0, none⟩))) (by simp [rF]) d16 (by simp)
  have hr : (execOp a.eval ro17).run Try.prog w = .ok (.value (.pointer (some ⟨X, 0, none⟩))) w := by
    simp only [execOp, ro17, e45]
    go_simp
  refine wpOp_of (o := ro17) rfl rfl ?_
  unfold Oper.wp
  rw [hr]
  exact ⟨w1, h.put 17 46 _ none (Nat.le_refl _) (rF_fine _ _ _ _ _ _ _ _ _ _ _ _ _) hb (.new (Below.refl _ _)) rfl rfl rfl (by decide) (by simp [rD, d16]) (by simp [rF, Spec.holds]), fun e => hw0 (by rwa [ub_ne (by decide)] at e), fun e => hw1 (by rwa [ub_ne (by decide)] at e)⟩
def ro18 : Oper := { dst := some 47, op := Go.Op.fieldAddr 112 (Go.Operand.tmp 46) 2, type := 0, pos := "scan.go:163", after := #[{ on := 17, ground := Go.Ground.data }], guard := none }
theorem rstep18 (_ : RCtx X J g k nb q n0 now er sv tl b b' w0) : RStep X J g k nb q n0 now er sv tl b b' x1 x2 x4 x5 x7 x8 x9 x10 x11 x12 x13 x14 x15 x16 x17 x18 x19 x20 x21 x22 x23 x24 x25 x26 x27 x59 x60 x61 x62 x63 x64 x65 x66 x67 w0 Q 18 := by
  intro bb a w h hb hdep
  obtain ⟨w1, h, hw0, hw1⟩ := h
  have d17 : bb 17 = true := hdep ro18 rfl { on := 17, ground := .data } (by simp [ro18]) rfl
  have e46 : a.eval (.tmp 46) = .pointer (some ⟨X, 0, none⟩) := h.got (i := 17) (cs := []) (s := .val (.pointer (some ⟨X, 0, none⟩))) (by simp [rF]) d17 (by simp)
  have hr : (execOp a.eval ro18).run Try.prog w = .ok (.value (.pointer (some ⟨X, 6, none⟩))) w := by
    simp only [execOp, ro18, e46]
    go_simp
  refine wpOp_of (o := ro18) rfl rfl ?_
  unfold Oper.wp
  rw [hr]
  exact ⟨w1, h.put 18 47 _ none (Nat.le_refl _) (rF_fine _ _ _ _ _ _ _ _ _ _ _ _ _) hb (.new (Below.refl _ _)) rfl rfl rfl (by decide) (by simp [rD, d17]) (by simp [rF, Spec.holds]), fun e => hw0 (by rwa [ub_ne (by decide)] at e), fun e => hw1 (by rwa [ub_ne (by decide)] at e)⟩
def ro19 : Oper := { dst := some 48, op := Go.Op.load 31 (Go.Operand.tmp 47), type := 31, pos := "scan.go:163", after := #[{ on := 18, ground := Go.Ground.data }], guard := none }
theorem rstep19 (C : RCtx X J g k nb q n0 now er sv tl b b' w0) : RStep X J g k nb q n0 now er sv tl b b' x1 x2 x4 x5 x7 x8 x9 x10 x11 x12 x13 x14 x15 x16 x17 x18 x19 x20 x21 x22 x23 x24 x25 x26 x27 x59 x60 x61 x62 x63 x64 x65 x66 x67 w0 Q 19 := by
  intro bb a w h hb hdep
  obtain ⟨w1, h, hw0, hw1⟩ := h
  have d18 : bb 18 = true := hdep ro19 rfl { on := 18, ground := .data } (by simp [ro19]) rfl
  have e47 : a.eval (.tmp 47) = .pointer (some ⟨X, 6, none⟩) := h.got (i := 18) (cs := []) (s := .val (.pointer (some ⟨X, 6, none⟩))) (by simp [rF]) d18 (by simp)
  have h31 : bb 31 = false := by
    cases e31 : bb 31 with
    | false => rfl
    | true =>
      have e28 := h.dep (31, 28) (by simp [rD]) e31
      have e27 := h.dep (28, 27) (by simp [rD]) e28
      have e26 := h.dep (27, 26) (by simp [rD]) e27
      have e21 := h.dep (26, 21) (by simp [rD]) e26
      have e19 := h.dep (21, 19) (by simp [rD]) e21
      rw [hb] at e19; cases e19
  obtain rfl := hw0 h31
  have c0 := cell_below h.bel _ _ C.cS
  have hr : (execOp a.eval ro19).run Try.prog w = .ok (.value (sv)) w := by
    simp only [execOp, ro19, e47]
    go_simp
  refine wpOp_of (o := ro19) rfl rfl ?_
  unfold Oper.wp
  rw [hr]
  exact ⟨w, h.put 19 48 _ none (Nat.le_refl _) (rF_fine _ _ _ _ _ _ _ _ _ _ _ _ _) hb (.new (Below.refl _ _)) rfl rfl rfl (by decide) (by simp [rD, d18]) (by simp [rF, Spec.holds]), fun _ => rfl, fun e => by rw [ub_ne (by decide), h31] at e; cases e⟩
def ro20 : Oper := { dst := some 49, op := Go.Op.move (Go.Operand.tmp 6), type := 3, pos := "scan.go:163", after := #[], guard := none }
theorem rstep20 (_ : RCtx X J g k nb q n0 now er sv tl b b' w0) : RStep X J g k nb q n0 now er sv tl b b' x1 x2 x4 x5 x7 x8 x9 x10 x11 x12 x13 x14 x15 x16 x17 x18 x19 x20 x21 x22 x23 x24 x25 x26 x27 x59 x60 x61 x62 x63 x64 x65 x66 x67 w0 Q 20 := by
  intro bb a w h hb hdep
  obtain ⟨w1, h, hw0, hw1⟩ := h
  have e6 : a.eval (.tmp 6) = .int .i64 (n0 : Int) := h.fixed (6, .int .i64 (n0 : Int)) (by simp [rFix])
  have hr : (execOp a.eval ro20).run Try.prog w = .ok (.value (.int .i64 (n0 : Int))) w := by
    simp only [execOp, ro20, e6]
    go_simp
  refine wpOp_of (o := ro20) rfl rfl ?_
  unfold Oper.wp
  rw [hr]
  exact ⟨w1, h.put 20 49 _ none (Nat.le_refl _) (rF_fine _ _ _ _ _ _ _ _ _ _ _ _ _) hb (.new (Below.refl _ _)) rfl rfl rfl (by decide) (by simp [rD]) (by simp [rF, Spec.holds]), fun e => hw0 (by rwa [ub_ne (by decide)] at e), fun e => hw1 (by rwa [ub_ne (by decide)] at e)⟩
def ro21 : Oper := { dst := some 50, op := Go.Op.slice 31 (Go.Operand.tmp 48) (some (Go.Operand.tmp 49)) none none, type := 31, pos := "scan.go:163", after := #[{ on := 19, ground := Go.Ground.data }, { on := 20, ground := Go.Ground.data }], guard := none }
theorem rstep21 (C : RCtx X J g k nb q n0 now er sv tl b b' w0) : RStep X J g k nb q n0 now er sv tl b b' x1 x2 x4 x5 x7 x8 x9 x10 x11 x12 x13 x14 x15 x16 x17 x18 x19 x20 x21 x22 x23 x24 x25 x26 x27 x59 x60 x61 x62 x63 x64 x65 x66 x67 w0 Q 21 := by
  intro bb a w h hb hdep
  obtain ⟨w1, h, hw0, hw1⟩ := h
  have d19 : bb 19 = true := hdep ro21 rfl { on := 19, ground := .data } (by simp [ro21]) rfl
  have d20 : bb 20 = true := hdep ro21 rfl { on := 20, ground := .data } (by simp [ro21]) rfl
  have e48 : a.eval (.tmp 48) = sv := h.got (i := 19) (cs := []) (s := .val (sv)) (by simp [rF]) d19 (by simp)
  have e49 : a.eval (.tmp 49) = .int .i64 (n0 : Int) := h.got (i := 20) (cs := []) (s := .val (.int .i64 (n0 : Int))) (by simp [rF]) d20 (by simp)
  have ht := C.tail w
  have e49' : a.tmps[49]?.getD undef = .int .i64 (n0 : Int) := by rw [← Array.getD_eq_getD_getElem?]; exact e49
  have hr : (execOp a.eval ro21).run Try.prog w = .ok (.value (tl)) w := by
    simp only [execOp, ro21, e48]
    go_simp
  refine wpOp_of (o := ro21) rfl rfl ?_
  unfold Oper.wp
  rw [hr]
  exact ⟨w1, h.put 21 50 _ none (Nat.le_refl _) (rF_fine _ _ _ _ _ _ _ _ _ _ _ _ _) hb (.new (Below.refl _ _)) rfl rfl rfl (by decide) (by simp [rD, d19, d20]) (by simp [rF, Spec.holds]), fun e => hw0 (by rwa [ub_ne (by decide)] at e), fun e => hw1 (by rwa [ub_ne (by decide)] at e)⟩
def ro22 : Oper := { dst := some 51, op := Go.Op.move (Go.Operand.tmp 0), type := 110, pos := "scan.go:163", after := #[], guard := none }
theorem rstep22 (_ : RCtx X J g k nb q n0 now er sv tl b b' w0) : RStep X J g k nb q n0 now er sv tl b b' x1 x2 x4 x5 x7 x8 x9 x10 x11 x12 x13 x14 x15 x16 x17 x18 x19 x20 x21 x22 x23 x24 x25 x26 x27 x59 x60 x61 x62 x63 x64 x65 x66 x67 w0 Q 22 := by
  intro bb a w h hb hdep
  obtain ⟨w1, h, hw0, hw1⟩ := h
  have e0 : a.eval (.tmp 0) = .pointer (some ⟨X, 0, none⟩) := h.fixed (0, .pointer (some ⟨X, 0, none⟩)) (by simp [rFix])
  have hr : (execOp a.eval ro22).run Try.prog w = .ok (.value (.pointer (some ⟨X, 0, none⟩))) w := by
    simp only [execOp, ro22, e0]
    go_simp
  refine wpOp_of (o := ro22) rfl rfl ?_
  unfold Oper.wp
  rw [hr]
  exact ⟨w1, h.put 22 51 _ none (Nat.le_refl _) (rF_fine _ _ _ _ _ _ _ _ _ _ _ _ _) hb (.new (Below.refl _ _)) rfl rfl rfl (by decide) (by simp [rD]) (by simp [rF, Spec.holds]), fun e => hw0 (by rwa [ub_ne (by decide)] at e), fun e => hw1 (by rwa [ub_ne (by decide)] at e)⟩
def ro23 : Oper := { dst := some 52, op := Go.Op.nilCheck (Go.Operand.tmp 51), type := 0, pos := "scan.go:163", after := #[{ on := 22, ground := Go.Ground.data }], guard := none }
theorem rstep23 (_ : RCtx X J g k nb q n0 now er sv tl b b' w0) : RStep X J g k nb q n0 now er sv tl b b' x1 x2 x4 x5 x7 x8 x9 x10 x11 x12 x13 x14 x15 x16 x17 x18 x19 x20 x21 x22 x23 x24 x25 x26 x27 x59 x60 x61 x62 x63 x64 x65 x66 x67 w0 Q 23 := by
  intro bb a w h hb hdep
  obtain ⟨w1, h, hw0, hw1⟩ := h
  have d22 : bb 22 = true := hdep ro23 rfl { on := 22, ground := .data } (by simp [ro23]) rfl
  have e51 : a.eval (.tmp 51) = .pointer (some ⟨X, 0, none⟩) := h.got (i := 22) (cs := []) (s := .val (.pointer (some ⟨X, 0, none⟩))) (by simp [rF]) d22 (by simp)
  have hr : (execOp a.eval ro23).run Try.prog w = .ok (.value (.pointer (some ⟨X, 0, none⟩))) w := by
    simp only [execOp, ro23, e51]
    go_simp
  refine wpOp_of (o := ro23) rfl rfl ?_
  unfold Oper.wp
  rw [hr]
  exact ⟨w1, h.put 23 52 _ none (Nat.le_refl _) (rF_fine _ _ _ _ _ _ _ _ _ _ _ _ _) hb (.new (Below.refl _ _)) rfl rfl rfl (by decide) (by simp [rD, d22]) (by simp [rF, Spec.holds]), fun e => hw0 (by rwa [ub_ne (by decide)] at e), fun e => hw1 (by rwa [ub_ne (by decide)] at e)⟩
def ro24 : Oper := { dst := some 53, op := Go.Op.fieldAddr 112 (Go.Operand.tmp 52) 5, type := 0, pos := "scan.go:163", after := #[{ on := 23, ground := Go.Ground.data }], guard := none }
theorem rstep24 (_ : RCtx X J g k nb q n0 now er sv tl b b' w0) : RStep X J g k nb q n0 now er sv tl b b' x1 x2 x4 x5 x7 x8 x9 x10 x11 x12 x13 x14 x15 x16 x17 x18 x19 x20 x21 x22 x23 x24 x25 x26 x27 x59 x60 x61 x62 x63 x64 x65 x66 x67 w0 Q 24 := by
  intro bb a w h hb hdep
  obtain ⟨w1, h, hw0, hw1⟩ := h
  have d23 : bb 23 = true := hdep ro24 rfl { on := 23, ground := .data } (by simp [ro24]) rfl
  have e52 : a.eval (.tmp 52) = .pointer (some ⟨X, 0, none⟩) := h.got (i := 23) (cs := []) (s := .val (.pointer (some ⟨X, 0, none⟩))) (by simp [rF]) d23 (by simp)
  have hr : (execOp a.eval ro24).run Try.prog w = .ok (.value (.pointer (some ⟨X, 9, none⟩))) w := by
    simp only [execOp, ro24, e52]
    go_simp
  refine wpOp_of (o := ro24) rfl rfl ?_
  unfold Oper.wp
  rw [hr]
  exact ⟨w1, h.put 24 53 _ none (Nat.le_refl _) (rF_fine _ _ _ _ _ _ _ _ _ _ _ _ _) hb (.new (Below.refl _ _)) rfl rfl rfl (by decide) (by simp [rD, d23]) (by simp [rF, Spec.holds]), fun e => hw0 (by rwa [ub_ne (by decide)] at e), fun e => hw1 (by rwa [ub_ne (by decide)] at e)⟩
def ro25 : Oper := { dst := some 54, op := Go.Op.load 2 (Go.Operand.tmp 53), type := 2, pos := "scan.go:163", after := #[{ on := 24, ground := Go.Ground.data }], guard := none }
theorem rstep25 (C : RCtx X J g k nb q n0 now er sv tl b b' w0) : RStep X J g k nb q n0 now er sv tl b b' x1 x2 x4 x5 x7 x8 x9 x10 x11 x12 x13 x14 x15 x16 x17 x18 x19 x20 x21 x22 x23 x24 x25 x26 x27 x59 x60 x61 x62 x63 x64 x65 x66 x67 w0 Q 25 := by
  intro bb a w h hb hdep
  obtain ⟨w1, h, hw0, hw1⟩ := h
  have d24 : bb 24 = true := hdep ro25 rfl { on := 24, ground := .data } (by simp [ro25]) rfl
  have e53 : a.eval (.tmp 53) = .pointer (some ⟨X, 9, none⟩) := h.got (i := 24) (cs := []) (s := .val (.pointer (some ⟨X, 9, none⟩))) (by simp [rF]) d24 (by simp)
  have h31 : bb 31 = false := by
    cases e31 : bb 31 with
    | false => rfl
    | true =>
      have e28 := h.dep (31, 28) (by simp [rD]) e31
      have e27 := h.dep (28, 27) (by simp [rD]) e28
      have e26 := h.dep (27, 26) (by simp [rD]) e27
      have e25 := h.dep (26, 25) (by simp [rD]) e26
      rw [hb] at e25; cases e25
  obtain rfl := hw0 h31
  have c0 := cell_below h.bel _ _ C.cN
  have hr : (execOp a.eval ro25).run Try.prog w = .ok (.value (.int .i64 now)) w := by
    simp only [execOp, ro25, e53]
    go_simp
  refine wpOp_of (o := ro25) rfl rfl ?_
  unfold Oper.wp
  rw [hr]
  exact ⟨w, h.put 25 54 _ none (Nat.le_refl _) (rF_fine _ _ _ _ _ _ _ _ _ _ _ _ _) hb (.new (Below.refl _ _)) rfl rfl rfl (by decide) (by simp [rD, d24]) (by simp [rF, Spec.holds]), fun _ => rfl, fun e => by rw [ub_ne (by decide), h31] at e; cases e⟩
def ro26 : Oper := { dst := some 55, op := Go.Op.call { callee := Go.Callee.value (Go.Operand.func 135), args := #[Go.Operand.tmp 44, Go.Operand.tmp 50, Go.Operand.tmp 54], argTypes := #[67, 31, 2] }, type := 163, pos := "scan.go:163", after := #[{ on := 15, ground := Go.Ground.data }, { on := 21, ground := Go.Ground.data }, { on := 25, ground := Go.Ground.data }], guard := none }
theorem rstep26 (C : RCtx X J g k nb q n0 now er sv tl b b' w0) : RStep X J g k nb q n0 now er sv tl b b' x1 x2 x4 x5 x7 x8 x9 x10 x11 x12 x13 x14 x15 x16 x17 x18 x19 x20 x21 x22 x23 x24 x25 x26 x27 x59 x60 x61 x62 x63 x64 x65 x66 x67 w0 Q 26 := by
  intro bb a w h hb hdep
  obtain ⟨w1, h, hw0, hw1⟩ := h
  have d15 : bb 15 = true := hdep ro26 rfl { on := 15, ground := .data } (by simp [ro26]) rfl
  have d21 : bb 21 = true := hdep ro26 rfl { on := 21, ground := .data } (by simp [ro26]) rfl
  have d25 : bb 25 = true := hdep ro26 rfl { on := 25, ground := .data } (by simp [ro26]) rfl
  have e44 : a.eval (.tmp 44) = vBlk b := h.got (i := 15) (cs := []) (s := .val (vBlk b)) (by simp [rF]) d15 (by simp)
  have e50 : a.eval (.tmp 50) = tl := h.got (i := 21) (cs := []) (s := .val (tl)) (by simp [rF]) d21 (by simp)
  have e54 : a.eval (.tmp 54) = .int .i64 now := h.got (i := 25) (cs := []) (s := .val (.int .i64 now)) (by simp [rF]) d25 (by simp)
  have h31 : bb 31 = false := by
    cases e31 : bb 31 with
    | false => rfl
    | true =>
      have e28 := h.dep (31, 28) (by simp [rD]) e31
      have e27 := h.dep (28, 27) (by simp [rD]) e28
      have e26 := h.dep (27, 26) (by simp [rD]) e27
      rw [hb] at e26; cases e26
  obtain rfl := hw0 h31
  unfold vBlk at e44
  have e44' : a.tmps[44]?.getD undef = .agg #[.int .u8 b.kind, .bool b.w0, .bool b.w1, .bool b.ran, .bool b.going, .int .i64 b.frm, .int .i64 b.et, .int .i64 b.cv, .bool b.q, .bool b.p] := by rw [← Array.getD_eq_getD_getElem?]; exact e44
  have e50' : a.tmps[50]?.getD undef = tl := by rw [← Array.getD_eq_getD_getElem?]; exact e50
  have e54' : a.tmps[54]?.getD undef = .int .i64 now := by rw [← Array.getD_eq_getD_getElem?]; exact e54
  have hr : (execOp a.eval ro26).run Try.prog w = .ok (.enter 135 #[vBlk b, tl, .int .i64 now]) w := by
    unfold vBlk
    simp only [execOp, ro26]
    go_simp
  refine wpOp_of (o := ro26) rfl rfl ?_
  unfold Oper.wp
  rw [hr, Oper.upon_enter]
  refine (C.run w h.bel).mono ?_
  rintro e w' ⟨rfl, hb'⟩
  exact ⟨w', h.put 26 55 _ none (Nat.le_refl _) (rF_fine _ _ _ _ _ _ _ _ _ _ _ _ _) hb (.new hb') rfl rfl rfl (by decide) (by simp [rD, d15, d21, d25]) (by simp [rF, Spec.holds]), fun _ => rfl, fun e => by rw [ub_ne (by decide), h31] at e; cases e⟩
def ro27 : Oper := { dst := some 28, op := Go.Op.move (Go.Operand.tmp 55), type := 163, pos := "scan.go:163", after := #[{ on := 26, ground := Go.Ground.data }], guard := none }
theorem rstep27 (_ : RCtx X J g k nb q n0 now er sv tl b b' w0) : RStep X J g k nb q n0 now er sv tl b b' x1 x2 x4 x5 x7 x8 x9 x10 x11 x12 x13 x14 x15 x16 x17 x18 x19 x20 x21 x22 x23 x24 x25 x26 x27 x59 x60 x61 x62 x63 x64 x65 x66 x67 w0 Q 27 := by
  intro bb a w h hb hdep
  obtain ⟨w1, h, hw0, hw1⟩ := h
  have d26 : bb 26 = true := hdep ro27 rfl { on := 26, ground := .data } (by simp [ro27]) rfl
  have e55 : a.eval (.tmp 55) = .tuple #[vBlk b', .int .i64 er] := h.got (i := 26) (cs := []) (s := .val (.tuple #[vBlk b', .int .i64 er])) (by simp [rF]) d26 (by simp)
  unfold vBlk at e55
  have hr : (execOp a.eval ro27).run Try.prog w = .ok (.value (.tuple #[vBlk b', .int .i64 er])) w := by
    unfold vBlk
    simp only [execOp, ro27, e55]
    go_simp
  refine wpOp_of (o := ro27) rfl rfl ?_
  unfold Oper.wp
  rw [hr]
  exact ⟨w1, h.put 27 28 _ none (Nat.le_refl _) (rF_fine _ _ _ _ _ _ _ _ _ _ _ _ _) hb (.new (Below.refl _ _)) rfl rfl rfl (by decide) (by simp [rD, d26]) (by simp [rF, Spec.holds]), fun e => hw0 (by rwa [ub_ne (by decide)] at e), fun e => hw1 (by rwa [ub_ne (by decide)] at e)⟩
def ro28 : Oper := { dst := some 56, op := Go.Op.extract (Go.Operand.tmp 28) 0, type := 67, pos := "scan.go:163", after := #[{ on := 27, ground := Go.Ground.data }], guard := none }
theorem rstep28 (_ : RCtx X J g k nb q n0 now er sv tl b b' w0) : RStep X J g k nb q n0 now er sv tl b b' x1 x2 x4 x5 x7 x8 x9 x10 x11 x12 x13 x14 x15 x16 x17 x18 x19 x20 x21 x22 x23 x24 x25 x26 x27 x59 x60 x61 x62 x63 x64 x65 x66 x67 w0 Q 28 := by
  intro bb a w h hb hdep
  obtain ⟨w1, h, hw0, hw1⟩ := h
  have d27 : bb 27 = true := hdep ro28 rfl { on := 27, ground := .data } (by simp [ro28]) rfl
  have e28 : a.eval (.tmp 28) = .tuple #[vBlk b', .int .i64 er] := h.got (i := 27) (cs := []) (s := .val (.tuple #[vBlk b', .int .i64 er])) (by simp [rF]) d27 (by simp)
  unfold vBlk at e28
  have hr : (execOp a.eval ro28).run Try.prog w = .ok (.value (vBlk b')) w := by
    unfold vBlk
    simp only [execOp, ro28, e28]
    go_simp
  refine wpOp_of (o := ro28) rfl rfl ?_
  unfold Oper.wp
  rw [hr]
  exact ⟨w1, h.put 28 56 _ none (Nat.le_refl _) (rF_fine _ _ _ _ _ _ _ _ _ _ _ _ _) hb (.new (Below.refl _ _)) rfl rfl rfl (by decide) (by simp [rD, d27]) (by simp [rF, Spec.holds]), fun e => hw0 (by rwa [ub_ne (by decide)] at e), fun e => hw1 (by rwa [ub_ne (by decide)] at e)⟩
def ro29 : Oper := { dst := some 57, op := Go.Op.extract (Go.Operand.tmp 28) 1, type := 35, pos := "scan.go:163", after := #[{ on := 27, ground := Go.Ground.data }, { on := 31, ground := Go.Ground.gcOnly Go.Departure.lateStores }], guard := none }
theorem rstep29 (_ : RCtx X J g k nb q n0 now er sv tl b b' w0) : RStep X J g k nb q n0 now er sv tl b b' x1 x2 x4 x5 x7 x8 x9 x10 x11 x12 x13 x14 x15 x16 x17 x18 x19 x20 x21 x22 x23 x24 x25 x26 x27 x59 x60 x61 x62 x63 x64 x65 x66 x67 w0 Q 29 := by
  intro bb a w h hb hdep
  obtain ⟨w1, h, hw0, hw1⟩ := h
  have d27 : bb 27 = true := hdep ro29 rfl { on := 27, ground := .data } (by simp [ro29]) rfl
  have e28 : a.eval (.tmp 28) = .tuple #[vBlk b', .int .i64 er] := h.got (i := 27) (cs := []) (s := .val (.tuple #[vBlk b', .int .i64 er])) (by simp [rF]) d27 (by simp)
  unfold vBlk at e28
  have hr : (execOp a.eval ro29).run Try.prog w = .ok (.value (.int .i64 er)) w := by
    simp only [execOp, ro29, e28]
    go_simp
  refine wpOp_of (o := ro29) rfl rfl ?_
  unfold Oper.wp
  rw [hr]
  exact ⟨w1, h.put 29 57 _ none (Nat.le_refl _) (rF_fine _ _ _ _ _ _ _ _ _ _ _ _ _) hb (.new (Below.refl _ _)) rfl rfl rfl (by decide) (by simp [rD, d27]) (by simp [rF, Spec.holds]), fun e => hw0 (by rwa [ub_ne (by decide)] at e), fun e => hw1 (by rwa [ub_ne (by decide)] at e)⟩
def ro30 : Oper := { dst := some 58, op := Go.Op.indexAddr 32 (Go.Operand.tmp 33) (Go.Operand.tmp 35), type := 0, pos := "scan.go:163", after := #[{ on := 4, ground := Go.Ground.data }, { on := 6, ground := Go.Ground.data }, { on := 0, ground := Go.Ground.phase }, { on := 1, ground := Go.Ground.phase }, { on := 2, ground := Go.Ground.phase }, { on := 3, ground := Go.Ground.phase }, { on := 4, ground := Go.Ground.phase }, { on := 5, ground := Go.Ground.phase }, { on := 6, ground := Go.Ground.phase }, { on := 7, ground := Go.Ground.phase }, { on := 8, ground := Go.Ground.phase }, { on := 9, ground := Go.Ground.phase }, { on := 10, ground := Go.Ground.phase }, { on := 11, ground := Go.Ground.phase }, { on := 12, ground := Go.Ground.phase }, { on := 13, ground := Go.Ground.phase }, { on := 14, ground := Go.Ground.phase }, { on := 15, ground := Go.Ground.phase }, { on := 16, ground := Go.Ground.phase }, { on := 17, ground := Go.Ground.phase }, { on := 18, ground := Go.Ground.phase }, { on := 19, ground := Go.Ground.phase }, { on := 20, ground := Go.Ground.phase }, { on := 21, ground := Go.Ground.phase }, { on := 22, ground := Go.Ground.phase }, { on := 23, ground := Go.Ground.phase }, { on := 24, ground := Go.Ground.phase }, { on := 25, ground := Go.Ground.phase }, { on := 26, ground := Go.Ground.phase }, { on := 27, ground := Go.Ground.phase }, { on := 28, ground := Go.Ground.phase }, { on := 29, ground := Go.Ground.textOnly Go.Departure.lateStores }], guard := none }
theorem rstep30 (C : RCtx X J g k nb q n0 now er sv tl b b' w0) : RStep X J g k nb q n0 now er sv tl b b' x1 x2 x4 x5 x7 x8 x9 x10 x11 x12 x13 x14 x15 x16 x17 x18 x19 x20 x21 x22 x23 x24 x25 x26 x27 x59 x60 x61 x62 x63 x64 x65 x66 x67 w0 Q 30 := by
  intro bb a w h hb hdep
  obtain ⟨w1, h, hw0, hw1⟩ := h
  have d4 : bb 4 = true := hdep ro30 rfl { on := 4, ground := .data } (by simp [ro30]) rfl
  have d6 : bb 6 = true := hdep ro30 rfl { on := 6, ground := .data } (by simp [ro30]) rfl
  have e33 : a.eval (.tmp 33) = .slice (some ⟨g, 0, none⟩) nb q := h.got (i := 4) (cs := []) (s := .val (.slice (some ⟨g, 0, none⟩) nb q)) (by simp [rF]) d4 (by simp)
  have e35 : a.eval (.tmp 35) = .int .i64 (k : Int) := h.got (i := 6) (cs := []) (s := .val (.int .i64 (k : Int))) (by simp [rF]) d6 (by simp)
  have hk := C.hk
  have hr : (execOp a.eval ro30).run Try.prog w = .ok (.value (.pointer (some ⟨g, k * 10, none⟩))) w := by
    simp only [execOp, ro30, e33, e35]
    go_simp
  refine wpOp_of (o := ro30) rfl rfl ?_
  unfold Oper.wp
  rw [hr]
  exact ⟨w1, h.put 30 58 _ none (Nat.le_refl _) (rF_fine _ _ _ _ _ _ _ _ _ _ _ _ _) hb (.new (Below.refl _ _)) rfl rfl rfl (by decide) (by simp [rD, d4, d6]) (by simp [rF, Spec.holds]), fun e => hw0 (by rwa [ub_ne (by decide)] at e), fun e => hw1 (by rwa [ub_ne (by decide)] at e)⟩
def ro31 : Oper := { dst := none, op := Go.Op.store 67 (Go.Operand.tmp 58) (Go.Operand.tmp 56), type := 0, pos := "scan.go:163", after := #[{ on := 30, ground := Go.Ground.data }, { on := 28, ground := Go.Ground.data }, { on := 26, ground := Go.Ground.chain }, { on := 0, ground := Go.Ground.phase }, { on := 1, ground := Go.Ground.phase }, { on := 2, ground := Go.Ground.phase }, { on := 3, ground := Go.Ground.phase }, { on := 4, ground := Go.Ground.phase }, { on := 5, ground := Go.Ground.phase }, { on := 6, ground := Go.Ground.phase }, { on := 7, ground := Go.Ground.phase }, { on := 8, ground := Go.Ground.phase }, { on := 9, ground := Go.Ground.phase }, { on := 10, ground := Go.Ground.phase }, { on := 11, ground := Go.Ground.phase }, { on := 12, ground := Go.Ground.phase }, { on := 13, ground := Go.Ground.phase }, { on := 14, ground := Go.Ground.phase }, { on := 15, ground := Go.Ground.phase }, { on := 16, ground := Go.Ground.phase }, { on := 17, ground := Go.Ground.phase }, { on := 18, ground := Go.Ground.phase }, { on := 19, ground := Go.Ground.phase }, { on := 20, ground := Go.Ground.phase }, { on := 21, ground := Go.Ground.phase }, { on := 22, ground := Go.Ground.phase }, { on := 23, ground := Go.Ground.phase }, { on := 24, ground := Go.Ground.phase }, { on := 25, ground := Go.Ground.phase }, { on := 26, ground := Go.Ground.phase }, { on := 27, ground := Go.Ground.phase }, { on := 28, ground := Go.Ground.phase }, { on := 29, ground := Go.Ground.textOnly Go.Departure.lateStores }], guard := none }
theorem rstep31 (C : RCtx X J g k nb q n0 now er sv tl b b' w0) : RStep X J g k nb q n0 now er sv tl b b' x1 x2 x4 x5 x7 x8 x9 x10 x11 x12 x13 x14 x15 x16 x17 x18 x19 x20 x21 x22 x23 x24 x25 x26 x27 x59 x60 x61 x62 x63 x64 x65 x66 x67 w0 Q 31 := by
  intro bb a w h hb hdep
  obtain ⟨w1, h, hw0, hw1⟩ := h
  have d28 : bb 28 = true := hdep ro31 rfl { on := 28, ground := .data } (by simp [ro31]) rfl
  have d30 : bb 30 = true := hdep ro31 rfl { on := 30, ground := .data } (by simp [ro31]) rfl
  have e56 : a.eval (.tmp 56) = vBlk b' := h.got (i := 28) (cs := []) (s := .val (vBlk b')) (by simp [rF]) d28 (by simp)
  have e58 : a.eval (.tmp 58) = .pointer (some ⟨g, k * 10, none⟩) := h.got (i := 30) (cs := []) (s := .val (.pointer (some ⟨g, k * 10, none⟩))) (by simp [rF]) d30 (by simp)
  have h31 : bb 31 = false := hb
  obtain rfl := hw0 h31
  obtain ⟨cs, hrow⟩ := C.row
  have lg : g < w0.heap.size := (Array.getElem?_eq_some_iff.1 hrow).1
  have hG := (h.bel.block g lg).trans hrow
  have q0 : w.cell? ⟨g, k * 10, none⟩ = some (.int .u8 b.kind) := cell_below h.bel _ _ (C.cells 0 _ rfl)
  have f0 : w.frozen? ⟨g, k * 10, none⟩ = false := frozen_of_row w g _ _ _ hG
  have q1 : w.cell? ⟨g, k * 10 + 1, none⟩ = some (.bool b.w0) := cell_below h.bel _ _ (C.cells 1 _ rfl)
  have f1 : w.frozen? ⟨g, k * 10 + 1, none⟩ = false := frozen_of_row w g _ _ _ hG
  have q2 : w.cell? ⟨g, k * 10 + 2, none⟩ = some (.bool b.w1) := cell_below h.bel _ _ (C.cells 2 _ rfl)
  have f2 : w.frozen? ⟨g, k * 10 + 2, none⟩ = false := frozen_of_row w g _ _ _ hG
  have q3 : w.cell? ⟨g, k * 10 + 3, none⟩ = some (.bool b.ran) := cell_below h.bel _ _ (C.cells 3 _ rfl)
  have f3 : w.frozen? ⟨g, k * 10 + 3, none⟩ = false := frozen_of_row w g _ _ _ hG
  have q4 : w.cell? ⟨g, k * 10 + 4, none⟩ = some (.bool b.going) := cell_below h.bel _ _ (C.cells 4 _ rfl)
  have f4 : w.frozen? ⟨g, k * 10 + 4, none⟩ = false := frozen_of_row w g _ _ _ hG
  have q5 : w.cell? ⟨g, k * 10 + 5, none⟩ = some (.int .i64 b.frm) := cell_below h.bel _ _ (C.cells 5 _ rfl)
  have f5 : w.frozen? ⟨g, k * 10 + 5, none⟩ = false := frozen_of_row w g _ _ _ hG
  have q6 : w.cell? ⟨g, k * 10 + 6, none⟩ = some (.int .i64 b.et) := cell_below h.bel _ _ (C.cells 6 _ rfl)
  have f6 : w.frozen? ⟨g, k * 10 + 6, none⟩ = false := frozen_of_row w g _ _ _ hG
  have q7 : w.cell? ⟨g, k * 10 + 7, none⟩ = some (.int .i64 b.cv) := cell_below h.bel _ _ (C.cells 7 _ rfl)
  have f7 : w.frozen? ⟨g, k * 10 + 7, none⟩ = false := frozen_of_row w g _ _ _ hG
  have q8 : w.cell? ⟨g, k * 10 + 8, none⟩ = some (.bool b.q) := cell_below h.bel _ _ (C.cells 8 _ rfl)
  have f8 : w.frozen? ⟨g, k * 10 + 8, none⟩ = false := frozen_of_row w g _ _ _ hG
  have q9 : w.cell? ⟨g, k * 10 + 9, none⟩ = some (.bool b.p) := cell_below h.bel _ _ (C.cells 9 _ rfl)
  have f9 : w.frozen? ⟨g, k * 10 + 9, none⟩ = false := frozen_of_row w g _ _ _ hG
  unfold vBlk at e56
  have hr : (execOp a.eval ro31).run Try.prog w = .ok .skip (setBlk w g (k * 10) b') := by
    unfold setBlk
    simp only [execOp, ro31, e56, e58]
    go_simp
  refine wpOp_of (o := ro31) rfl rfl ?_
  unfold Oper.wp
  rw [hr]
  exact ⟨w, h.mark 31 rfl (by simp [rD, d28, d30]), fun e => (by rw [ub_self] at e; cases e), fun _ => rfl⟩
theorem r_hac : ∀ i o, rOps[i]? = some o → ∀ e ∈ o.after, Region.binds .any e = true → e.on < i := by
  have h : ((List.range rOps.size).all fun i => match rOps[i]? with | some o => o.after.all fun e => !(Region.binds .any e) || decide (e.on < i) | none => true) = true := by decide +kernel
  intro i o ho e he hb
  have hi : i < rOps.size := (Array.getElem?_eq_some_iff.1 ho).1
  have h1 := List.all_eq_true.1 h i (List.mem_range.2 hi)
  rw [ho] at h1
  have h2 := Array.all_eq_true_iff_forall_mem.1 h1 e he
  rw [hb] at h2
  exact of_decide_eq_true h2
set_option maxHeartbeats 1000000 in
set_option maxRecDepth 100000 in
theorem runs_region (C : RCtx X J g k nb q n0 now er sv tl b b' w0) (y28 y29 y30 y31 y32 y33 y34 y35 y36 y37 y38 y39 y40 y41 y42 y43 y44 y45 y46 y47 y48 y49 y50 y51 y52 y53 y54 y55 y56 y57 y58 : Value) (cont : ∀ (u28 u29 u30 u31 u32 u33 u34 u35 u36 u37 u38 u39 u40 u41 u42 u43 u44 u45 u46 u47 u48 u49 u50 u51 u52 u53 u54 u55 u56 u57 u58 : Value) (w1 : World), Below w0.heap.size w0 w1 → Q .normal ⟨#[.pointer (some ⟨X, 0, none⟩), x1, x2, .pointer (some ⟨J, 0, none⟩), x4, x5, .int .i64 (n0 : Int), x7, x8, x9, x10, x11, x12, x13, x14, x15, x16, x17, x18, x19, x20, x21, x22, x23, x24, x25, x26, x27, u28, u29, u30, u31, u32, u33, u34, u35, u36, u37, u38, u39, u40, u41, u42, u43, u44, u45, u46, u47, u48, u49, u50, u51, u52, u53, u54, u55, u56, u57, u58, x59, x60, x61, x62, x63, x64, x65, x66, x67], []⟩ (setBlk w1 g (k * 10) b')) :
    (Code.region 3 rOps true).wp Try.prog Q ⟨#[.pointer (some ⟨X, 0, none⟩), x1, x2, .pointer (some ⟨J, 0, none⟩), x4, x5, .int .i64 (n0 : Int), x7, x8, x9, x10, x11, x12, x13, x14, x15, x16, x17, x18, x19, x20, x21, x22, x23, x24, x25, x26, x27, y28, y29, y30, y31, y32, y33, y34, y35, y36, y37, y38, y39, y40, y41, y42, y43, y44, y45, y46, y47, y48, y49, y50, y51, y52, y53, y54, y55, y56, y57, y58, x59, x60, x61, x62, x63, x64, x65, x66, x67], []⟩ w0 := by
  refine wp_region_inv (ops := rOps) (by kernel_rfl) r_hac (RI X J g k nb q n0 now er sv tl b b' x1 x2 x4 x5 x7 x8 x9 x10 x11 x12 x13 x14 x15 x16 x17 x18 x19 x20 x21 x22 x23 x24 x25 x26 x27 x59 x60 x61 x62 x63 x64 x65 x66 x67 w0) ?_ ?_ ?_
  · exact ⟨w0.drew, { defers := rfl, size := rfl, fixed := by simp [rFix, Act.eval], bel := (Below.refl _ _).drew, f := (fun _ _ h => by cases h), dep := (fun _ _ h => by cases h) }, fun _ => rfl, fun h => by cases h⟩
  · intro i hi
    change i < 32 at hi
    match i, hi with
    | 0, _ => exact rstep0 C
    | 1, _ => exact rstep1 C
    | 2, _ => exact rstep2 C
    | 3, _ => exact rstep3 C
    | 4, _ => exact rstep4 C
    | 5, _ => exact rstep5 C
    | 6, _ => exact rstep6 C
    | 7, _ => exact rstep7 C
    | 8, _ => exact rstep8 C
    | 9, _ => exact rstep9 C
    | 10, _ => exact rstep10 C
    | 11, _ => exact rstep11 C
    | 12, _ => exact rstep12 C
    | 13, _ => exact rstep13 C
    | 14, _ => exact rstep14 C
    | 15, _ => exact rstep15 C
    | 16, _ => exact rstep16 C
    | 17, _ => exact rstep17 C
    | 18, _ => exact rstep18 C
    | 19, _ => exact rstep19 C
    | 20, _ => exact rstep20 C
    | 21, _ => exact rstep21 C
    | 22, _ => exact rstep22 C
    | 23, _ => exact rstep23 C
    | 24, _ => exact rstep24 C
    | 25, _ => exact rstep25 C
    | 26, _ => exact rstep26 C
    | 27, _ => exact rstep27 C
    | 28, _ => exact rstep28 C
    | 29, _ => exact rstep29 C
    | 30, _ => exact rstep30 C
    | 31, _ => exact rstep31 C
    | n + 32, hi => exact absurd hi (by omega)
  · intro bb a w hall h
    obtain ⟨w1, h, -, hw1⟩ := h
    obtain rfl := hw1 (hall 31 (by decide))
    have e0 : a.eval (.tmp 0) = .pointer (some ⟨X, 0, none⟩) := h.fixed (0, .pointer (some ⟨X, 0, none⟩)) (by simp [rFix])
    have e1 : a.eval (.tmp 1) = x1 := h.fixed (1, x1) (by simp [rFix])
    have e2 : a.eval (.tmp 2) = x2 := h.fixed (2, x2) (by simp [rFix])
    have e3 : a.eval (.tmp 3) = .pointer (some ⟨J, 0, none⟩) := h.fixed (3, .pointer (some ⟨J, 0, none⟩)) (by simp [rFix])
    have e4 : a.eval (.tmp 4) = x4 := h.fixed (4, x4) (by simp [rFix])
    have e5 : a.eval (.tmp 5) = x5 := h.fixed (5, x5) (by simp [rFix])
    have e6 : a.eval (.tmp 6) = .int .i64 (n0 : Int) := h.fixed (6, .int .i64 (n0 : Int)) (by simp [rFix])
    have e7 : a.eval (.tmp 7) = x7 := h.fixed (7, x7) (by simp [rFix])
    have e8 : a.eval (.tmp 8) = x8 := h.fixed (8, x8) (by simp [rFix])
    have e9 : a.eval (.tmp 9) = x9 := h.fixed (9, x9) (by simp [rFix])
    have e10 : a.eval (.tmp 10) = x10 := h.fixed (10, x10) (by simp [rFix])
    have e11 : a.eval (.tmp 11) = x11 := h.fixed (11, x11) (by simp [rFix])
    have e12 : a.eval (.tmp 12) = x12 := h.fixed (12, x12) (by simp [rFix])
    have e13 : a.eval (.tmp 13) = x13 := h.fixed (13, x13) (by simp [rFix])
    have e14 : a.eval (.tmp 14) = x14 := h.fixed (14, x14) (by simp [rFix])
    have e15 : a.eval (.tmp 15) = x15 := h.fixed (15, x15) (by simp [rFix])
    have e16 : a.eval (.tmp 16) = x16 := h.fixed (16, x16) (by simp [rFix])
    have e17 : a.eval (.tmp 17) = x17 := h.fixed (17, x17) (by simp [rFix])
    have e18 : a.eval (.tmp 18) = x18 := h.fixed (18, x18) (by simp [rFix])
    have e19 : a.eval (.tmp 19) = x19 := h.fixed (19, x19) (by simp [rFix])
    have e20 : a.eval (.tmp 20) = x20 := h.fixed (20, x20) (by simp [rFix])
    have e21 : a.eval (.tmp 21) = x21 := h.fixed (21, x21) (by simp [rFix])
    have e22 : a.eval (.tmp 22) = x22 := h.fixed (22, x22) (by simp [rFix])
    have e23 : a.eval (.tmp 23) = x23 := h.fixed (23, x23) (by simp [rFix])
    have e24 : a.eval (.tmp 24) = x24 := h.fixed (24, x24) (by simp [rFix])
    have e25 : a.eval (.tmp 25) = x25 := h.fixed (25, x25) (by simp [rFix])
    have e26 : a.eval (.tmp 26) = x26 := h.fixed (26, x26) (by simp [rFix])
    have e27 : a.eval (.tmp 27) = x27 := h.fixed (27, x27) (by simp [rFix])
    have e59 : a.eval (.tmp 59) = x59 := h.fixed (59, x59) (by simp [rFix])
    have e60 : a.eval (.tmp 60) = x60 := h.fixed (60, x60) (by simp [rFix])
    have e61 : a.eval (.tmp 61) = x61 := h.fixed (61, x61) (by simp [rFix])
    have e62 : a.eval (.tmp 62) = x62 := h.fixed (62, x62) (by simp [rFix])
    have e63 : a.eval (.tmp 63) = x63 := h.fixed (63, x63) (by simp [rFix])
    have e64 : a.eval (.tmp 64) = x64 := h.fixed (64, x64) (by simp [rFix])
    have e65 : a.eval (.tmp 65) = x65 := h.fixed (65, x65) (by simp [rFix])
    have e66 : a.eval (.tmp 66) = x66 := h.fixed (66, x66) (by simp [rFix])
    have e67 : a.eval (.tmp 67) = x67 := h.fixed (67, x67) (by simp [rFix])
    have h1 := arr_lits a.tmps 68 h.size
    have h2 : ((List.range 68).map fun i => a.tmps.getD i undef) = [a.eval (.tmp 0), a.eval (.tmp 1), a.eval (.tmp 2), a.eval (.tmp 3), a.eval (.tmp 4), a.eval (.tmp 5), a.eval (.tmp 6), a.eval (.tmp 7), a.eval (.tmp 8), a.eval (.tmp 9), a.eval (.tmp 10), a.eval (.tmp 11), a.eval (.tmp 12), a.eval (.tmp 13), a.eval (.tmp 14), a.eval (.tmp 15), a.eval (.tmp 16), a.eval (.tmp 17), a.eval (.tmp 18), a.eval (.tmp 19), a.eval (.tmp 20), a.eval (.tmp 21), a.eval (.tmp 22), a.eval (.tmp 23), a.eval (.tmp 24), a.eval (.tmp 25), a.eval (.tmp 26), a.eval (.tmp 27), a.eval (.tmp 28), a.eval (.tmp 29), a.eval (.tmp 30), a.eval (.tmp 31), a.eval (.tmp 32), a.eval (.tmp 33), a.eval (.tmp 34), a.eval (.tmp 35), a.eval (.tmp 36), a.eval (.tmp 37), a.eval (.tmp 38), a.eval (.tmp 39), a.eval (.tmp 40), a.eval (.tmp 41), a.eval (.tmp 42), a.eval (.tmp 43), a.eval (.tmp 44), a.eval (.tmp 45), a.eval (.tmp 46), a.eval (.tmp 47), a.eval (.tmp 48), a.eval (.tmp 49), a.eval (.tmp 50), a.eval (.tmp 51), a.eval (.tmp 52), a.eval (.tmp 53), a.eval (.tmp 54), a.eval (.tmp 55), a.eval (.tmp 56), a.eval (.tmp 57), a.eval (.tmp 58), a.eval (.tmp 59), a.eval (.tmp 60), a.eval (.tmp 61), a.eval (.tmp 62), a.eval (.tmp 63), a.eval (.tmp 64), a.eval (.tmp 65), a.eval (.tmp 66), a.eval (.tmp 67)] := rfl
    rw [h2, e0, e1, e2, e3, e4, e5, e6, e7, e8, e9, e10, e11, e12, e13, e14, e15, e16, e17, e18, e19, e20, e21, e22, e23, e24, e25, e26, e27, e59, e60, e61, e62, e63, e64, e65, e66, e67] at h1
    have hd := h.defers
    have hbel := h.bel
    clear h2 h
    obtain ⟨tm, df⟩ := a
    simp only at h1 hd
    subst hd
    generalize Act.eval ⟨tm, []⟩ (.tmp 28) = u28, Act.eval ⟨tm, []⟩ (.tmp 29) = u29, Act.eval ⟨tm, []⟩ (.tmp 30) = u30, Act.eval ⟨tm, []⟩ (.tmp 31) = u31, Act.eval ⟨tm, []⟩ (.tmp 32) = u32, Act.eval ⟨tm, []⟩ (.tmp 33) = u33, Act.eval ⟨tm, []⟩ (.tmp 34) = u34, Act.eval ⟨tm, []⟩ (.tmp 35) = u35, Act.eval ⟨tm, []⟩ (.tmp 36) = u36, Act.eval ⟨tm, []⟩ (.tmp 37) = u37, Act.eval ⟨tm, []⟩ (.tmp 38) = u38, Act.eval ⟨tm, []⟩ (.tmp 39) = u39, Act.eval ⟨tm, []⟩ (.tmp 40) = u40, Act.eval ⟨tm, []⟩ (.tmp 41) = u41, Act.eval ⟨tm, []⟩ (.tmp 42) = u42, Act.eval ⟨tm, []⟩ (.tmp 43) = u43, Act.eval ⟨tm, []⟩ (.tmp 44) = u44, Act.eval ⟨tm, []⟩ (.tmp 45) = u45, Act.eval ⟨tm, []⟩ (.tmp 46) = u46, Act.eval ⟨tm, []⟩ (.tmp 47) = u47, Act.eval ⟨tm, []⟩ (.tmp 48) = u48, Act.eval ⟨tm, []⟩ (.tmp 49) = u49, Act.eval ⟨tm, []⟩ (.tmp 50) = u50, Act.eval ⟨tm, []⟩ (.tmp 51) = u51, Act.eval ⟨tm, []⟩ (.tmp 52) = u52, Act.eval ⟨tm, []⟩ (.tmp 53) = u53, Act.eval ⟨tm, []⟩ (.tmp 54) = u54, Act.eval ⟨tm, []⟩ (.tmp 55) = u55, Act.eval ⟨tm, []⟩ (.tmp 56) = u56, Act.eval ⟨tm, []⟩ (.tmp 57) = u57, Act.eval ⟨tm, []⟩ (.tmp 58) = u58 at h1
    subst h1
    exact cont _ _ _ _ _ _ _ _ _ _ _ _ _ _ _ _ _ _ _ _ _ _ _ _ _ _ _ _ _ _ _ w1 hbel
end
end Go.Proofs.Ytiogpainajokkaa
