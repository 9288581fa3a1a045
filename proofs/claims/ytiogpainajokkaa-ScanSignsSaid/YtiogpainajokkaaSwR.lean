/- ScanSigns's region of two Wrap calls and two new boxes (it draws its order). Printed by gen_swr.py. -/
import Derived.Test.YtiogpainajokkaaRnR
import Derived.Test.YtiogpainajokkaaJnsM
import Derived.IntWalk
namespace Go.Proofs.Ytiogpainajokkaa
open Go.RowKit
def wOps : Array Oper := #[{ dst := some 24, op := Go.Op.load 41 (Go.Operand.tmp 7), type := 41, pos := "outright.go:137", after := #[], guard := none },
  { dst := some 25, op := Go.Op.move (Go.Operand.tmp 1), type := 2, pos := "outright.go:137", after := #[], guard := none },
  { dst := some 26, op := Go.Op.call { callee := Go.Callee.value (Go.Operand.func 19), args := #[Go.Operand.tmp 24, Go.Operand.tmp 25], argTypes := #[41, 2] }, type := 2, pos := "outright.go:137", after := #[{ on := 0, ground := Go.Ground.data }, { on := 1, ground := Go.Ground.data }], guard := none },
  { dst := some 27, op := Go.Op.load 41 (Go.Operand.tmp 7), type := 41, pos := "outright.go:137", after := #[], guard := none },
  { dst := some 28, op := Go.Op.move (Go.Operand.tmp 2), type := 2, pos := "outright.go:137", after := #[], guard := none },
  { dst := some 29, op := Go.Op.call { callee := Go.Callee.value (Go.Operand.func 19), args := #[Go.Operand.tmp 27, Go.Operand.tmp 28], argTypes := #[41, 2] }, type := 2, pos := "outright.go:137", after := #[{ on := 3, ground := Go.Ground.data }, { on := 4, ground := Go.Ground.data }, { on := 2, ground := Go.Ground.chain }], guard := none },
  { dst := some 8, op := Go.Op.alloc 2, type := 0, pos := "outright.go:137", after := #[], guard := none },
  { dst := some 9, op := Go.Op.alloc 2, type := 0, pos := "outright.go:137", after := #[], guard := none },
  { dst := none, op := Go.Op.store 2 (Go.Operand.tmp 8) (Go.Operand.tmp 26), type := 0, pos := "outright.go:137", after := #[{ on := 6, ground := Go.Ground.data }, { on := 2, ground := Go.Ground.data }, { on := 5, ground := Go.Ground.chain }, { on := 0, ground := Go.Ground.phase }, { on := 1, ground := Go.Ground.phase }, { on := 2, ground := Go.Ground.phase }, { on := 3, ground := Go.Ground.textOnly Go.Departure.lateStores }, { on := 4, ground := Go.Ground.textOnly Go.Departure.lateStores }, { on := 5, ground := Go.Ground.textOnly Go.Departure.lateStoresUnsure }, { on := 6, ground := Go.Ground.phase }, { on := 7, ground := Go.Ground.phase }], guard := none },
  { dst := none, op := Go.Op.store 2 (Go.Operand.tmp 9) (Go.Operand.tmp 29), type := 0, pos := "outright.go:137", after := #[{ on := 7, ground := Go.Ground.data }, { on := 5, ground := Go.Ground.data }, { on := 8, ground := Go.Ground.chain }, { on := 0, ground := Go.Ground.phase }, { on := 1, ground := Go.Ground.phase }, { on := 2, ground := Go.Ground.phase }, { on := 3, ground := Go.Ground.phase }, { on := 4, ground := Go.Ground.phase }, { on := 5, ground := Go.Ground.phase }, { on := 6, ground := Go.Ground.phase }, { on := 7, ground := Go.Ground.phase }, { on := 8, ground := Go.Ground.phase }], guard := none }]
def wF (k a0 b0 : Int) (g8 g9 : Nat) : List Claim := [(0, [], 24, .val (.int .u8 k)), (1, [], 25, .val (.int .i64 a0)), (2, [], 26, .val (.int .i64 (wrapOf k a0))), (3, [], 27, .val (.int .u8 k)), (4, [], 28, .val (.int .i64 b0)), (5, [], 29, .val (.int .i64 (wrapOf k b0))), (6, [], 8, .val (.pointer (some ⟨g8, 0, none⟩))), (7, [], 9, .val (.pointer (some ⟨g9, 0, none⟩)))]
def wD : List (Nat × Nat) := [(2, 0), (2, 1), (5, 3), (5, 4), (8, 2), (8, 6), (9, 5), (9, 7)]
def wFix (K : Nat) (a0 b0 : Int) (x0 x3 x4 x5 x6 x10 x11 x12 x13 x14 x15 x16 x17 x18 x19 x20 x21 x22 x23 x30 x31 x32 x33 x34 x35 x36 x37 x38 x39 x40 x41 x42 x43 x44 x45 x46 x47 x48 x49 x50 x51 x52 x53 x54 x55 x56 x57 x58 x59 x60 x61 x62 x63 x64 x65 x66 x67 x68 x69 x70 x71 x72 x73 x74 x75 x76 x77 x78 x79 x80 x81 x82 x83 x84 x85 x86 x87 x88 x89 x90 x91 x92 x93 x94 x95 x96 x97 x98 x99 x100 x101 x102 x103 x104 x105 x106 x107 x108 x109 x110 x111 x112 x113 x114 x115 x116 x117 x118 x119 x120 x121 x122 x123 x124 x125 : Value) : List (Nat × Value) := [(0, x0), (1, .int .i64 a0), (2, .int .i64 b0), (3, x3), (4, x4), (5, x5), (6, x6), (7, .pointer (some ⟨K, 0, none⟩)), (10, x10), (11, x11), (12, x12), (13, x13), (14, x14), (15, x15), (16, x16), (17, x17), (18, x18), (19, x19), (20, x20), (21, x21), (22, x22), (23, x23), (30, x30), (31, x31), (32, x32), (33, x33), (34, x34), (35, x35), (36, x36), (37, x37), (38, x38), (39, x39), (40, x40), (41, x41), (42, x42), (43, x43), (44, x44), (45, x45), (46, x46), (47, x47), (48, x48), (49, x49), (50, x50), (51, x51), (52, x52), (53, x53), (54, x54), (55, x55), (56, x56), (57, x57), (58, x58), (59, x59), (60, x60), (61, x61), (62, x62), (63, x63), (64, x64), (65, x65), (66, x66), (67, x67), (68, x68), (69, x69), (70, x70), (71, x71), (72, x72), (73, x73), (74, x74), (75, x75), (76, x76), (77, x77), (78, x78), (79, x79), (80, x80), (81, x81), (82, x82), (83, x83), (84, x84), (85, x85), (86, x86), (87, x87), (88, x88), (89, x89), (90, x90), (91, x91), (92, x92), (93, x93), (94, x94), (95, x95), (96, x96), (97, x97), (98, x98), (99, x99), (100, x100), (101, x101), (102, x102), (103, x103), (104, x104), (105, x105), (106, x106), (107, x107), (108, x108), (109, x109), (110, x110), (111, x111), (112, x112), (113, x113), (114, x114), (115, x115), (116, x116), (117, x117), (118, x118), (119, x119), (120, x120), (121, x121), (122, x122), (123, x123), (124, x124), (125, x125)]
theorem wF_fine (k a0 b0 : Int) (g8 g9 : Nat) : ∀ x ∈ wF k a0 b0 g8 g9, x.2.2.2.Fine := by
  intro x hx
  simp only [wF, List.mem_cons, List.not_mem_nil, or_false] at hx
  rcases hx with rfl | rfl | rfl | rfl | rfl | rfl | rfl | rfl
  all_goals trivial
theorem wF_val (k a0 b0 : Int) (g8 g9 : Nat) : ∀ x ∈ wF k a0 b0 g8 g9, ∃ v, x.2.2.2 = .val v := by
  intro x hx
  simp only [wF, List.mem_cons, List.not_mem_nil, or_false] at hx
  rcases hx with rfl | rfl | rfl | rfl | rfl | rfl | rfl | rfl
  all_goals exact ⟨_, rfl⟩
/-- Claims of values alone hang on no world. -/
theorem RegSt.world {F : List Claim} {D : List (Nat × Nat)} {fix : List (Nat × Value)} {B0 : Nat} {w0 : World} {n : Nat} {b : Nat → Bool} {a : Act} {w w' : World} (h : RegSt F D fix B0 w0 n b a w) (hF : ∀ x ∈ F, ∃ v, x.2.2.2 = .val v) (hb : Below B0 w0 w') : RegSt F D fix B0 w0 n b a w' where
  defers := h.defers
  size := h.size
  fixed := h.fixed
  bel := hb
  f x hx hbx hc := by
    obtain ⟨v, e⟩ := hF x hx
    have := h.f x hx hbx hc
    rw [e] at this ⊢
    exact this
  dep := h.dep
def WI (K : Nat) (k a0 b0 : Int) (x0 x3 x4 x5 x6 x10 x11 x12 x13 x14 x15 x16 x17 x18 x19 x20 x21 x22 x23 x30 x31 x32 x33 x34 x35 x36 x37 x38 x39 x40 x41 x42 x43 x44 x45 x46 x47 x48 x49 x50 x51 x52 x53 x54 x55 x56 x57 x58 x59 x60 x61 x62 x63 x64 x65 x66 x67 x68 x69 x70 x71 x72 x73 x74 x75 x76 x77 x78 x79 x80 x81 x82 x83 x84 x85 x86 x87 x88 x89 x90 x91 x92 x93 x94 x95 x96 x97 x98 x99 x100 x101 x102 x103 x104 x105 x106 x107 x108 x109 x110 x111 x112 x113 x114 x115 x116 x117 x118 x119 x120 x121 x122 x123 x124 x125 : Value) (w0 : World) (bb : Nat → Bool) (a : Act) (w : World) : Prop := ∃ g8 g9, RegSt (wF k a0 b0 g8 g9) wD (wFix K a0 b0 x0 x3 x4 x5 x6 x10 x11 x12 x13 x14 x15 x16 x17 x18 x19 x20 x21 x22 x23 x30 x31 x32 x33 x34 x35 x36 x37 x38 x39 x40 x41 x42 x43 x44 x45 x46 x47 x48 x49 x50 x51 x52 x53 x54 x55 x56 x57 x58 x59 x60 x61 x62 x63 x64 x65 x66 x67 x68 x69 x70 x71 x72 x73 x74 x75 x76 x77 x78 x79 x80 x81 x82 x83 x84 x85 x86 x87 x88 x89 x90 x91 x92 x93 x94 x95 x96 x97 x98 x99 x100 x101 x102 x103 x104 x105 x106 x107 x108 x109 x110 x111 x112 x113 x114 x115 x116 x117 x118 x119 x120 x121 x122 x123 x124 x125) w0.heap.size w0 126 bb a w ∧ (bb 6 = true → w0.heap.size ≤ g8 ∧ w.heap[g8]? = some (.cells #[if bb 8 = true then .int .i64 (wrapOf k a0) else .int .i64 0] 2 (0, 0))) ∧ (bb 7 = true → w0.heap.size ≤ g9 ∧ w.heap[g9]? = some (.cells #[if bb 9 = true then .int .i64 (wrapOf k b0) else .int .i64 0] 2 (0, 0))) ∧ (bb 6 = true → bb 7 = true → g8 ≠ g9)
def WStep (K : Nat) (k a0 b0 : Int) (x0 x3 x4 x5 x6 x10 x11 x12 x13 x14 x15 x16 x17 x18 x19 x20 x21 x22 x23 x30 x31 x32 x33 x34 x35 x36 x37 x38 x39 x40 x41 x42 x43 x44 x45 x46 x47 x48 x49 x50 x51 x52 x53 x54 x55 x56 x57 x58 x59 x60 x61 x62 x63 x64 x65 x66 x67 x68 x69 x70 x71 x72 x73 x74 x75 x76 x77 x78 x79 x80 x81 x82 x83 x84 x85 x86 x87 x88 x89 x90 x91 x92 x93 x94 x95 x96 x97 x98 x99 x100 x101 x102 x103 x104 x105 x106 x107 x108 x109 x110 x111 x112 x113 x114 x115 x116 x117 x118 x119 x120 x121 x122 x123 x124 x125 : Value) (w0 : World) (Q : Exit → Act → World → Prop) (i : Nat) : Prop := ∀ bb a w, WI K k a0 b0 x0 x3 x4 x5 x6 x10 x11 x12 x13 x14 x15 x16 x17 x18 x19 x20 x21 x22 x23 x30 x31 x32 x33 x34 x35 x36 x37 x38 x39 x40 x41 x42 x43 x44 x45 x46 x47 x48 x49 x50 x51 x52 x53 x54 x55 x56 x57 x58 x59 x60 x61 x62 x63 x64 x65 x66 x67 x68 x69 x70 x71 x72 x73 x74 x75 x76 x77 x78 x79 x80 x81 x82 x83 x84 x85 x86 x87 x88 x89 x90 x91 x92 x93 x94 x95 x96 x97 x98 x99 x100 x101 x102 x103 x104 x105 x106 x107 x108 x109 x110 x111 x112 x113 x114 x115 x116 x117 x118 x119 x120 x121 x122 x123 x124 x125 w0 bb a w → bb i = false → (∀ o, wOps[i]? = some o → ∀ e ∈ o.after, Region.binds .any e = true → bb e.on = true) → wpOp Try.prog wOps Q i (WI K k a0 b0 x0 x3 x4 x5 x6 x10 x11 x12 x13 x14 x15 x16 x17 x18 x19 x20 x21 x22 x23 x30 x31 x32 x33 x34 x35 x36 x37 x38 x39 x40 x41 x42 x43 x44 x45 x46 x47 x48 x49 x50 x51 x52 x53 x54 x55 x56 x57 x58 x59 x60 x61 x62 x63 x64 x65 x66 x67 x68 x69 x70 x71 x72 x73 x74 x75 x76 x77 x78 x79 x80 x81 x82 x83 x84 x85 x86 x87 x88 x89 x90 x91 x92 x93 x94 x95 x96 x97 x98 x99 x100 x101 x102 x103 x104 x105 x106 x107 x108 x109 x110 x111 x112 x113 x114 x115 x116 x117 x118 x119 x120 x121 x122 x123 x124 x125 w0 (ub bb i)) a w
section
variable {K : Nat} {k a0 b0 : Int} {x0 x3 x4 x5 x6 x10 x11 x12 x13 x14 x15 x16 x17 x18 x19 x20 x21 x22 x23 x30 x31 x32 x33 x34 x35 x36 x37 x38 x39 x40 x41 x42 x43 x44 x45 x46 x47 x48 x49 x50 x51 x52 x53 x54 x55 x56 x57 x58 x59 x60 x61 x62 x63 x64 x65 x66 x67 x68 x69 x70 x71 x72 x73 x74 x75 x76 x77 x78 x79 x80 x81 x82 x83 x84 x85 x86 x87 x88 x89 x90 x91 x92 x93 x94 x95 x96 x97 x98 x99 x100 x101 x102 x103 x104 x105 x106 x107 x108 x109 x110 x111 x112 x113 x114 x115 x116 x117 x118 x119 x120 x121 x122 x123 x124 x125 : Value} {w0 : World} {Q : Exit → Act → World → Prop}
theorem w_swap8 {g8 g9 g : Nat} {bb : Nat → Bool} {a : Act} {w : World} (h : RegSt (wF k a0 b0 g8 g9) wD (wFix K a0 b0 x0 x3 x4 x5 x6 x10 x11 x12 x13 x14 x15 x16 x17 x18 x19 x20 x21 x22 x23 x30 x31 x32 x33 x34 x35 x36 x37 x38 x39 x40 x41 x42 x43 x44 x45 x46 x47 x48 x49 x50 x51 x52 x53 x54 x55 x56 x57 x58 x59 x60 x61 x62 x63 x64 x65 x66 x67 x68 x69 x70 x71 x72 x73 x74 x75 x76 x77 x78 x79 x80 x81 x82 x83 x84 x85 x86 x87 x88 x89 x90 x91 x92 x93 x94 x95 x96 x97 x98 x99 x100 x101 x102 x103 x104 x105 x106 x107 x108 x109 x110 x111 x112 x113 x114 x115 x116 x117 x118 x119 x120 x121 x122 x123 x124 x125) w0.heap.size w0 126 bb a w) (hn : bb 6 = false) : RegSt (wF k a0 b0 g g9) wD (wFix K a0 b0 x0 x3 x4 x5 x6 x10 x11 x12 x13 x14 x15 x16 x17 x18 x19 x20 x21 x22 x23 x30 x31 x32 x33 x34 x35 x36 x37 x38 x39 x40 x41 x42 x43 x44 x45 x46 x47 x48 x49 x50 x51 x52 x53 x54 x55 x56 x57 x58 x59 x60 x61 x62 x63 x64 x65 x66 x67 x68 x69 x70 x71 x72 x73 x74 x75 x76 x77 x78 x79 x80 x81 x82 x83 x84 x85 x86 x87 x88 x89 x90 x91 x92 x93 x94 x95 x96 x97 x98 x99 x100 x101 x102 x103 x104 x105 x106 x107 x108 x109 x110 x111 x112 x113 x114 x115 x116 x117 x118 x119 x120 x121 x122 x123 x124 x125) w0.heap.size w0 126 bb a w := by
  refine { defers := h.defers, size := h.size, fixed := h.fixed, bel := h.bel, dep := h.dep, f := fun x hx hbx hc => ?_ }
  simp only [wF, List.mem_cons, List.not_mem_nil, or_false] at hx
  rcases hx with rfl | rfl | rfl | rfl | rfl | rfl | rfl | rfl
  · exact h.f (0, [], 24, .val (.int .u8 k)) (by simp [wF]) hbx hc
  · exact h.f (1, [], 25, .val (.int .i64 a0)) (by simp [wF]) hbx hc
  · exact h.f (2, [], 26, .val (.int .i64 (wrapOf k a0))) (by simp [wF]) hbx hc
  · exact h.f (3, [], 27, .val (.int .u8 k)) (by simp [wF]) hbx hc
  · exact h.f (4, [], 28, .val (.int .i64 b0)) (by simp [wF]) hbx hc
  · exact h.f (5, [], 29, .val (.int .i64 (wrapOf k b0))) (by simp [wF]) hbx hc
  · rw [show bb 6 = true from hbx] at hn; cases hn
  · exact h.f (7, [], 9, .val (.pointer (some ⟨g9, 0, none⟩))) (by simp [wF]) hbx hc
theorem w_swap9 {g8 g9 g : Nat} {bb : Nat → Bool} {a : Act} {w : World} (h : RegSt (wF k a0 b0 g8 g9) wD (wFix K a0 b0 x0 x3 x4 x5 x6 x10 x11 x12 x13 x14 x15 x16 x17 x18 x19 x20 x21 x22 x23 x30 x31 x32 x33 x34 x35 x36 x37 x38 x39 x40 x41 x42 x43 x44 x45 x46 x47 x48 x49 x50 x51 x52 x53 x54 x55 x56 x57 x58 x59 x60 x61 x62 x63 x64 x65 x66 x67 x68 x69 x70 x71 x72 x73 x74 x75 x76 x77 x78 x79 x80 x81 x82 x83 x84 x85 x86 x87 x88 x89 x90 x91 x92 x93 x94 x95 x96 x97 x98 x99 x100 x101 x102 x103 x104 x105 x106 x107 x108 x109 x110 x111 x112 x113 x114 x115 x116 x117 x118 x119 x120 x121 x122 x123 x124 x125) w0.heap.size w0 126 bb a w) (hn : bb 7 = false) : RegSt (wF k a0 b0 g8 g) wD (wFix K a0 b0 x0 x3 x4 x5 x6 x10 x11 x12 x13 x14 x15 x16 x17 x18 x19 x20 x21 x22 x23 x30 x31 x32 x33 x34 x35 x36 x37 x38 x39 x40 x41 x42 x43 x44 x45 x46 x47 x48 x49 x50 x51 x52 x53 x54 x55 x56 x57 x58 x59 x60 x61 x62 x63 x64 x65 x66 x67 x68 x69 x70 x71 x72 x73 x74 x75 x76 x77 x78 x79 x80 x81 x82 x83 x84 x85 x86 x87 x88 x89 x90 x91 x92 x93 x94 x95 x96 x97 x98 x99 x100 x101 x102 x103 x104 x105 x106 x107 x108 x109 x110 x111 x112 x113 x114 x115 x116 x117 x118 x119 x120 x121 x122 x123 x124 x125) w0.heap.size w0 126 bb a w := by
  refine { defers := h.defers, size := h.size, fixed := h.fixed, bel := h.bel, dep := h.dep, f := fun x hx hbx hc => ?_ }
  simp only [wF, List.mem_cons, List.not_mem_nil, or_false] at hx
  rcases hx with rfl | rfl | rfl | rfl | rfl | rfl | rfl | rfl
  · exact h.f (0, [], 24, .val (.int .u8 k)) (by simp [wF]) hbx hc
  · exact h.f (1, [], 25, .val (.int .i64 a0)) (by simp [wF]) hbx hc
  · exact h.f (2, [], 26, .val (.int .i64 (wrapOf k a0))) (by simp [wF]) hbx hc
  · exact h.f (3, [], 27, .val (.int .u8 k)) (by simp [wF]) hbx hc
  · exact h.f (4, [], 28, .val (.int .i64 b0)) (by simp [wF]) hbx hc
  · exact h.f (5, [], 29, .val (.int .i64 (wrapOf k b0))) (by simp [wF]) hbx hc
  · exact h.f (6, [], 8, .val (.pointer (some ⟨g8, 0, none⟩))) (by simp [wF]) hbx hc
  · rw [show bb 7 = true from hbx] at hn; cases hn
def wo0 : Oper := { dst := some 24, op := Go.Op.load 41 (Go.Operand.tmp 7), type := 41, pos := "outright.go:137", after := #[], guard := none }
theorem wstep0 (C0 : w0.cell? ⟨K, 0, none⟩ = some (.int .u8 k)) : WStep K k a0 b0 x0 x3 x4 x5 x6 x10 x11 x12 x13 x14 x15 x16 x17 x18 x19 x20 x21 x22 x23 x30 x31 x32 x33 x34 x35 x36 x37 x38 x39 x40 x41 x42 x43 x44 x45 x46 x47 x48 x49 x50 x51 x52 x53 x54 x55 x56 x57 x58 x59 x60 x61 x62 x63 x64 x65 x66 x67 x68 x69 x70 x71 x72 x73 x74 x75 x76 x77 x78 x79 x80 x81 x82 x83 x84 x85 x86 x87 x88 x89 x90 x91 x92 x93 x94 x95 x96 x97 x98 x99 x100 x101 x102 x103 x104 x105 x106 x107 x108 x109 x110 x111 x112 x113 x114 x115 x116 x117 x118 x119 x120 x121 x122 x123 x124 x125 w0 Q 0 := by
  intro bb a w h hb hdep
  obtain ⟨g8, g9, h, h8, h9, hne⟩ := h
  have e7 : a.eval (.tmp 7) = .pointer (some ⟨K, 0, none⟩) := h.fixed (7, .pointer (some ⟨K, 0, none⟩)) (by simp [wFix])
  have c0 := cell_below h.bel _ _ C0
  have hr : (execOp a.eval wo0).run Try.prog w = .ok (.value (.int .u8 k)) w := by
    simp only [execOp, wo0, e7]
    go_simp
  refine wpOp_of (o := wo0) rfl rfl ?_
  unfold Oper.wp
  rw [hr]
  exact ⟨g8, g9, h.put 0 24 _ none (Nat.le_refl _) (wF_fine _ _ _ _ _) hb (.new (Below.refl _ _)) rfl rfl rfl (by decide) (by simp [wD]) (by simp [wF, Spec.holds]), (fun e => by rw [ub_ne (by decide)] at e; rw [ub_ne (by decide)]; exact h8 e), (fun e => by rw [ub_ne (by decide)] at e; rw [ub_ne (by decide)]; exact h9 e), (fun e e' => hne (by rwa [ub_ne (by decide)] at e) (by rwa [ub_ne (by decide)] at e'))⟩
def wo1 : Oper := { dst := some 25, op := Go.Op.move (Go.Operand.tmp 1), type := 2, pos := "outright.go:137", after := #[], guard := none }
theorem wstep1 (_ : w0.cell? ⟨K, 0, none⟩ = some (.int .u8 k)) : WStep K k a0 b0 x0 x3 x4 x5 x6 x10 x11 x12 x13 x14 x15 x16 x17 x18 x19 x20 x21 x22 x23 x30 x31 x32 x33 x34 x35 x36 x37 x38 x39 x40 x41 x42 x43 x44 x45 x46 x47 x48 x49 x50 x51 x52 x53 x54 x55 x56 x57 x58 x59 x60 x61 x62 x63 x64 x65 x66 x67 x68 x69 x70 x71 x72 x73 x74 x75 x76 x77 x78 x79 x80 x81 x82 x83 x84 x85 x86 x87 x88 x89 x90 x91 x92 x93 x94 x95 x96 x97 x98 x99 x100 x101 x102 x103 x104 x105 x106 x107 x108 x109 x110 x111 x112 x113 x114 x115 x116 x117 x118 x119 x120 x121 x122 x123 x124 x125 w0 Q 1 := by
  intro bb a w h hb hdep
  obtain ⟨g8, g9, h, h8, h9, hne⟩ := h
  have e1 : a.eval (.tmp 1) = .int .i64 a0 := h.fixed (1, .int .i64 a0) (by simp [wFix])
  have hr : (execOp a.eval wo1).run Try.prog w = .ok (.value (.int .i64 a0)) w := by
    simp only [execOp, wo1, e1]
    go_simp
  refine wpOp_of (o := wo1) rfl rfl ?_
  unfold Oper.wp
  rw [hr]
  exact ⟨g8, g9, h.put 1 25 _ none (Nat.le_refl _) (wF_fine _ _ _ _ _) hb (.new (Below.refl _ _)) rfl rfl rfl (by decide) (by simp [wD]) (by simp [wF, Spec.holds]), (fun e => by rw [ub_ne (by decide)] at e; rw [ub_ne (by decide)]; exact h8 e), (fun e => by rw [ub_ne (by decide)] at e; rw [ub_ne (by decide)]; exact h9 e), (fun e e' => hne (by rwa [ub_ne (by decide)] at e) (by rwa [ub_ne (by decide)] at e'))⟩
def wo2 : Oper := { dst := some 26, op := Go.Op.call { callee := Go.Callee.value (Go.Operand.func 19), args := #[Go.Operand.tmp 24, Go.Operand.tmp 25], argTypes := #[41, 2] }, type := 2, pos := "outright.go:137", after := #[{ on := 0, ground := Go.Ground.data }, { on := 1, ground := Go.Ground.data }], guard := none }
theorem wstep2 (_ : w0.cell? ⟨K, 0, none⟩ = some (.int .u8 k)) : WStep K k a0 b0 x0 x3 x4 x5 x6 x10 x11 x12 x13 x14 x15 x16 x17 x18 x19 x20 x21 x22 x23 x30 x31 x32 x33 x34 x35 x36 x37 x38 x39 x40 x41 x42 x43 x44 x45 x46 x47 x48 x49 x50 x51 x52 x53 x54 x55 x56 x57 x58 x59 x60 x61 x62 x63 x64 x65 x66 x67 x68 x69 x70 x71 x72 x73 x74 x75 x76 x77 x78 x79 x80 x81 x82 x83 x84 x85 x86 x87 x88 x89 x90 x91 x92 x93 x94 x95 x96 x97 x98 x99 x100 x101 x102 x103 x104 x105 x106 x107 x108 x109 x110 x111 x112 x113 x114 x115 x116 x117 x118 x119 x120 x121 x122 x123 x124 x125 w0 Q 2 := by
  intro bb a w h hb hdep
  obtain ⟨g8, g9, h, h8, h9, hne⟩ := h
  have d0 : bb 0 = true := hdep wo2 rfl { on := 0, ground := .data } (by simp [wo2]) rfl
  have d1 : bb 1 = true := hdep wo2 rfl { on := 1, ground := .data } (by simp [wo2]) rfl
  have e24 : a.eval (.tmp 24) = .int .u8 k := h.got (i := 0) (cs := []) (s := .val (.int .u8 k)) (by simp [wF]) d0 (by simp)
  have e25 : a.eval (.tmp 25) = .int .i64 a0 := h.got (i := 1) (cs := []) (s := .val (.int .i64 a0)) (by simp [wF]) d1 (by simp)
  have e24' : a.tmps[24]?.getD undef = .int .u8 k := by rw [← Array.getD_eq_getD_getElem?]; exact e24
  have e25' : a.tmps[25]?.getD undef = .int .i64 a0 := by rw [← Array.getD_eq_getD_getElem?]; exact e25
  have hr : (execOp a.eval wo2).run Try.prog w = .ok (.enter 19 #[.int .u8 k, .int .i64 a0]) w := by
    simp only [execOp, wo2]
    go_simp
  refine wpOp_of (o := wo2) rfl rfl ?_
  unfold Oper.wp
  rw [hr, Oper.upon_enter]
  refine (wrap_any _ _ _).mono ?_
  rintro e w' ⟨rfl, rfl⟩
  exact ⟨g8, g9, h.put 2 26 _ none (Nat.le_refl _) (wF_fine _ _ _ _ _) hb (.new (Below.refl _ _)) rfl rfl rfl (by decide) (by simp [wD, d0, d1]) (by simp [wF, Spec.holds]), (fun e => by rw [ub_ne (by decide)] at e; rw [ub_ne (by decide)]; exact h8 e), (fun e => by rw [ub_ne (by decide)] at e; rw [ub_ne (by decide)]; exact h9 e), (fun e e' => hne (by rwa [ub_ne (by decide)] at e) (by rwa [ub_ne (by decide)] at e'))⟩
def wo3 : Oper := { dst := some 27, op := Go.Op.load 41 (Go.Operand.tmp 7), type := 41, pos := "outright.go:137", after := #[], guard := none }
theorem wstep3 (C0 : w0.cell? ⟨K, 0, none⟩ = some (.int .u8 k)) : WStep K k a0 b0 x0 x3 x4 x5 x6 x10 x11 x12 x13 x14 x15 x16 x17 x18 x19 x20 x21 x22 x23 x30 x31 x32 x33 x34 x35 x36 x37 x38 x39 x40 x41 x42 x43 x44 x45 x46 x47 x48 x49 x50 x51 x52 x53 x54 x55 x56 x57 x58 x59 x60 x61 x62 x63 x64 x65 x66 x67 x68 x69 x70 x71 x72 x73 x74 x75 x76 x77 x78 x79 x80 x81 x82 x83 x84 x85 x86 x87 x88 x89 x90 x91 x92 x93 x94 x95 x96 x97 x98 x99 x100 x101 x102 x103 x104 x105 x106 x107 x108 x109 x110 x111 x112 x113 x114 x115 x116 x117 x118 x119 x120 x121 x122 x123 x124 x125 w0 Q 3 := by
  intro bb a w h hb hdep
  obtain ⟨g8, g9, h, h8, h9, hne⟩ := h
  have e7 : a.eval (.tmp 7) = .pointer (some ⟨K, 0, none⟩) := h.fixed (7, .pointer (some ⟨K, 0, none⟩)) (by simp [wFix])
  have c0 := cell_below h.bel _ _ C0
  have hr : (execOp a.eval wo3).run Try.prog w = .ok (.value (.int .u8 k)) w := by
    simp only [execOp, wo3, e7]
    go_simp
  refine wpOp_of (o := wo3) rfl rfl ?_
  unfold Oper.wp
  rw [hr]
  exact ⟨g8, g9, h.put 3 27 _ none (Nat.le_refl _) (wF_fine _ _ _ _ _) hb (.new (Below.refl _ _)) rfl rfl rfl (by decide) (by simp [wD]) (by simp [wF, Spec.holds]), (fun e => by rw [ub_ne (by decide)] at e; rw [ub_ne (by decide)]; exact h8 e), (fun e => by rw [ub_ne (by decide)] at e; rw [ub_ne (by decide)]; exact h9 e), (fun e e' => hne (by rwa [ub_ne (by decide)] at e) (by rwa [ub_ne (by decide)] at e'))⟩
def wo4 : Oper := { dst := some 28, op := Go.Op.move (Go.Operand.tmp 2), type := 2, pos := "outright.go:137", after := #[], guard := none }
theorem wstep4 (_ : w0.cell? ⟨K, 0, none⟩ = some (.int .u8 k)) : WStep K k a0 b0 x0 x3 x4 x5 x6 x10 x11 x12 x13 x14 x15 x16 x17 x18 x19 x20 x21 x22 x23 x30 x31 x32 x33 x34 x35 x36 x37 x38 x39 x40 x41 x42 x43 x44 x45 x46 x47 x48 x49 x50 x51 x52 x53 x54 x55 x56 x57 x58 x59 x60 x61 x62 x63 x64 x65 x66 x67 x68 x69 x70 x71 x72 x73 x74 x75 x76 x77 x78 x79 x80 x81 x82 x83 x84 x85 x86 x87 x88 x89 x90 x91 x92 x93 x94 x95 x96 x97 x98 x99 x100 x101 x102 x103 x104 x105 x106 x107 x108 x109 x110 x111 x112 x113 x114 x115 x116 x117 x118 x119 x120 x121 x122 x123 x124 x125 w0 Q 4 := by
  intro bb a w h hb hdep
  obtain ⟨g8, g9, h, h8, h9, hne⟩ := h
  have e2 : a.eval (.tmp 2) = .int .i64 b0 := h.fixed (2, .int .i64 b0) (by simp [wFix])
  have hr : (execOp a.eval wo4).run Try.prog w = .ok (.value (.int .i64 b0)) w := by
    simp only [execOp, wo4, e2]
    go_simp
  refine wpOp_of (o := wo4) rfl rfl ?_
  unfold Oper.wp
  rw [hr]
  exact ⟨g8, g9, h.put 4 28 _ none (Nat.le_refl _) (wF_fine _ _ _ _ _) hb (.new (Below.refl _ _)) rfl rfl rfl (by decide) (by simp [wD]) (by simp [wF, Spec.holds]), (fun e => by rw [ub_ne (by decide)] at e; rw [ub_ne (by decide)]; exact h8 e), (fun e => by rw [ub_ne (by decide)] at e; rw [ub_ne (by decide)]; exact h9 e), (fun e e' => hne (by rwa [ub_ne (by decide)] at e) (by rwa [ub_ne (by decide)] at e'))⟩
def wo5 : Oper := { dst := some 29, op := Go.Op.call { callee := Go.Callee.value (Go.Operand.func 19), args := #[Go.Operand.tmp 27, Go.Operand.tmp 28], argTypes := #[41, 2] }, type := 2, pos := "outright.go:137", after := #[{ on := 3, ground := Go.Ground.data }, { on := 4, ground := Go.Ground.data }, { on := 2, ground := Go.Ground.chain }], guard := none }
theorem wstep5 (_ : w0.cell? ⟨K, 0, none⟩ = some (.int .u8 k)) : WStep K k a0 b0 x0 x3 x4 x5 x6 x10 x11 x12 x13 x14 x15 x16 x17 x18 x19 x20 x21 x22 x23 x30 x31 x32 x33 x34 x35 x36 x37 x38 x39 x40 x41 x42 x43 x44 x45 x46 x47 x48 x49 x50 x51 x52 x53 x54 x55 x56 x57 x58 x59 x60 x61 x62 x63 x64 x65 x66 x67 x68 x69 x70 x71 x72 x73 x74 x75 x76 x77 x78 x79 x80 x81 x82 x83 x84 x85 x86 x87 x88 x89 x90 x91 x92 x93 x94 x95 x96 x97 x98 x99 x100 x101 x102 x103 x104 x105 x106 x107 x108 x109 x110 x111 x112 x113 x114 x115 x116 x117 x118 x119 x120 x121 x122 x123 x124 x125 w0 Q 5 := by
  intro bb a w h hb hdep
  obtain ⟨g8, g9, h, h8, h9, hne⟩ := h
  have d3 : bb 3 = true := hdep wo5 rfl { on := 3, ground := .data } (by simp [wo5]) rfl
  have d4 : bb 4 = true := hdep wo5 rfl { on := 4, ground := .data } (by simp [wo5]) rfl
  have e27 : a.eval (.tmp 27) = .int .u8 k := h.got (i := 3) (cs := []) (s := .val (.int .u8 k)) (by simp [wF]) d3 (by simp)
  have e28 : a.eval (.tmp 28) = .int .i64 b0 := h.got (i := 4) (cs := []) (s := .val (.int .i64 b0)) (by simp [wF]) d4 (by simp)
  have e27' : a.tmps[27]?.getD undef = .int .u8 k := by rw [← Array.getD_eq_getD_getElem?]; exact e27
  have e28' : a.tmps[28]?.getD undef = .int .i64 b0 := by rw [← Array.getD_eq_getD_getElem?]; exact e28
  have hr : (execOp a.eval wo5).run Try.prog w = .ok (.enter 19 #[.int .u8 k, .int .i64 b0]) w := by
    simp only [execOp, wo5]
    go_simp
  refine wpOp_of (o := wo5) rfl rfl ?_
  unfold Oper.wp
  rw [hr, Oper.upon_enter]
  refine (wrap_any _ _ _).mono ?_
  rintro e w' ⟨rfl, rfl⟩
  exact ⟨g8, g9, h.put 5 29 _ none (Nat.le_refl _) (wF_fine _ _ _ _ _) hb (.new (Below.refl _ _)) rfl rfl rfl (by decide) (by simp [wD, d3, d4]) (by simp [wF, Spec.holds]), (fun e => by rw [ub_ne (by decide)] at e; rw [ub_ne (by decide)]; exact h8 e), (fun e => by rw [ub_ne (by decide)] at e; rw [ub_ne (by decide)]; exact h9 e), (fun e e' => hne (by rwa [ub_ne (by decide)] at e) (by rwa [ub_ne (by decide)] at e'))⟩
def wo6 : Oper := { dst := some 8, op := Go.Op.alloc 2, type := 0, pos := "outright.go:137", after := #[], guard := none }
theorem wstep6 (_ : w0.cell? ⟨K, 0, none⟩ = some (.int .u8 k)) : WStep K k a0 b0 x0 x3 x4 x5 x6 x10 x11 x12 x13 x14 x15 x16 x17 x18 x19 x20 x21 x22 x23 x30 x31 x32 x33 x34 x35 x36 x37 x38 x39 x40 x41 x42 x43 x44 x45 x46 x47 x48 x49 x50 x51 x52 x53 x54 x55 x56 x57 x58 x59 x60 x61 x62 x63 x64 x65 x66 x67 x68 x69 x70 x71 x72 x73 x74 x75 x76 x77 x78 x79 x80 x81 x82 x83 x84 x85 x86 x87 x88 x89 x90 x91 x92 x93 x94 x95 x96 x97 x98 x99 x100 x101 x102 x103 x104 x105 x106 x107 x108 x109 x110 x111 x112 x113 x114 x115 x116 x117 x118 x119 x120 x121 x122 x123 x124 x125 w0 Q 6 := by
  intro bb a w h hb hdep
  obtain ⟨g8, g9, h, h8, h9, hne⟩ := h
  have hr : (execOp a.eval wo6).run Try.prog w = .ok (.value (.pointer (some ⟨w.heap.size, 0, none⟩))) (w.alloc (.cells #[.int .i64 0] 2)) := by
    simp only [execOp, wo6]
    go_simp
  have hs : bb 8 = false := by
    cases e : bb 8 with
    | false => rfl
    | true =>
      have := h.dep (8, 6) (by simp [wD]) e
      rw [hb] at this; cases this
  have h2 := w_swap8 (g := w.heap.size) h hb
  refine wpOp_of (o := wo6) rfl rfl ?_
  unfold Oper.wp
  rw [hr]
  exact ⟨w.heap.size, g9, h2.put 6 8 _ none (Nat.le_refl _) (wF_fine _ _ _ _ _) hb (.new ((Below.refl _ _).alloc (Nat.le_refl _) _)) rfl rfl rfl (by decide) (by simp [wD]) (by simp [wF, Spec.holds]), (fun _ => ⟨h.bel.size, by rw [ub_ne (by decide), hs]; exact heap_alloc_new w _⟩), (fun e => by rw [ub_ne (by decide)] at e; rw [ub_ne (by decide)]; exact ⟨(h9 e).1, (heap_alloc_old _ _ (Array.getElem?_eq_some_iff.1 (h9 e).2).1).trans (h9 e).2⟩), (fun _ e => by rw [ub_ne (by decide)] at e; have := (Array.getElem?_eq_some_iff.1 (h9 e).2).1; omega)⟩
def wo7 : Oper := { dst := some 9, op := Go.Op.alloc 2, type := 0, pos := "outright.go:137", after := #[], guard := none }
theorem wstep7 (_ : w0.cell? ⟨K, 0, none⟩ = some (.int .u8 k)) : WStep K k a0 b0 x0 x3 x4 x5 x6 x10 x11 x12 x13 x14 x15 x16 x17 x18 x19 x20 x21 x22 x23 x30 x31 x32 x33 x34 x35 x36 x37 x38 x39 x40 x41 x42 x43 x44 x45 x46 x47 x48 x49 x50 x51 x52 x53 x54 x55 x56 x57 x58 x59 x60 x61 x62 x63 x64 x65 x66 x67 x68 x69 x70 x71 x72 x73 x74 x75 x76 x77 x78 x79 x80 x81 x82 x83 x84 x85 x86 x87 x88 x89 x90 x91 x92 x93 x94 x95 x96 x97 x98 x99 x100 x101 x102 x103 x104 x105 x106 x107 x108 x109 x110 x111 x112 x113 x114 x115 x116 x117 x118 x119 x120 x121 x122 x123 x124 x125 w0 Q 7 := by
  intro bb a w h hb hdep
  obtain ⟨g8, g9, h, h8, h9, hne⟩ := h
  have hr : (execOp a.eval wo7).run Try.prog w = .ok (.value (.pointer (some ⟨w.heap.size, 0, none⟩))) (w.alloc (.cells #[.int .i64 0] 2)) := by
    simp only [execOp, wo7]
    go_simp
  have hs : bb 9 = false := by
    cases e : bb 9 with
    | false => rfl
    | true =>
      have := h.dep (9, 7) (by simp [wD]) e
      rw [hb] at this; cases this
  have h2 := w_swap9 (g := w.heap.size) h hb
  refine wpOp_of (o := wo7) rfl rfl ?_
  unfold Oper.wp
  rw [hr]
  exact ⟨g8, w.heap.size, h2.put 7 9 _ none (Nat.le_refl _) (wF_fine _ _ _ _ _) hb (.new ((Below.refl _ _).alloc (Nat.le_refl _) _)) rfl rfl rfl (by decide) (by simp [wD]) (by simp [wF, Spec.holds]), (fun e => by rw [ub_ne (by decide)] at e; rw [ub_ne (by decide)]; exact ⟨(h8 e).1, (heap_alloc_old _ _ (Array.getElem?_eq_some_iff.1 (h8 e).2).1).trans (h8 e).2⟩), (fun _ => ⟨h.bel.size, by rw [ub_ne (by decide), hs]; exact heap_alloc_new w _⟩), (fun e _ => by rw [ub_ne (by decide)] at e; have := (Array.getElem?_eq_some_iff.1 (h8 e).2).1; omega)⟩
def wo8 : Oper := { dst := none, op := Go.Op.store 2 (Go.Operand.tmp 8) (Go.Operand.tmp 26), type := 0, pos := "outright.go:137", after := #[{ on := 6, ground := Go.Ground.data }, { on := 2, ground := Go.Ground.data }, { on := 5, ground := Go.Ground.chain }, { on := 0, ground := Go.Ground.phase }, { on := 1, ground := Go.Ground.phase }, { on := 2, ground := Go.Ground.phase }, { on := 3, ground := Go.Ground.textOnly Go.Departure.lateStores }, { on := 4, ground := Go.Ground.textOnly Go.Departure.lateStores }, { on := 5, ground := Go.Ground.textOnly Go.Departure.lateStoresUnsure }, { on := 6, ground := Go.Ground.phase }, { on := 7, ground := Go.Ground.phase }], guard := none }
theorem wstep8 (_ : w0.cell? ⟨K, 0, none⟩ = some (.int .u8 k)) : WStep K k a0 b0 x0 x3 x4 x5 x6 x10 x11 x12 x13 x14 x15 x16 x17 x18 x19 x20 x21 x22 x23 x30 x31 x32 x33 x34 x35 x36 x37 x38 x39 x40 x41 x42 x43 x44 x45 x46 x47 x48 x49 x50 x51 x52 x53 x54 x55 x56 x57 x58 x59 x60 x61 x62 x63 x64 x65 x66 x67 x68 x69 x70 x71 x72 x73 x74 x75 x76 x77 x78 x79 x80 x81 x82 x83 x84 x85 x86 x87 x88 x89 x90 x91 x92 x93 x94 x95 x96 x97 x98 x99 x100 x101 x102 x103 x104 x105 x106 x107 x108 x109 x110 x111 x112 x113 x114 x115 x116 x117 x118 x119 x120 x121 x122 x123 x124 x125 w0 Q 8 := by
  intro bb a w h hb hdep
  obtain ⟨g8, g9, h, h8, h9, hne⟩ := h
  have d2 : bb 2 = true := hdep wo8 rfl { on := 2, ground := .data } (by simp [wo8]) rfl
  have d6 : bb 6 = true := hdep wo8 rfl { on := 6, ground := .data } (by simp [wo8]) rfl
  have e8 : a.eval (.tmp 8) = .pointer (some ⟨g8, 0, none⟩) := h.got (i := 6) (cs := []) (s := .val (.pointer (some ⟨g8, 0, none⟩))) (by simp [wF]) d6 (by simp)
  have e26 : a.eval (.tmp 26) = .int .i64 (wrapOf k a0) := h.got (i := 2) (cs := []) (s := .val (.int .i64 (wrapOf k a0))) (by simp [wF]) d2 (by simp)
  obtain ⟨lo, row⟩ := h8 d6
  rw [hb] at row
  have row' : w.heap[g8]? = some (.cells #[.int .i64 0] 2 (0, 0)) := row
  have q0 : w.cell? ⟨g8, 0, none⟩ = some (.int .i64 0) := cell_of_row _ _ 0 _ _ _ row'
  have f0 : w.frozen? ⟨g8, 0, none⟩ = false := frozen_of_row w g8 _ _ _ row'
  have hr : (execOp a.eval wo8).run Try.prog w = .ok .skip (w.setCell ⟨g8, 0, none⟩ (.int .i64 (wrapOf k a0))) := by
    simp only [execOp, wo8, e8, e26]
    go_simp
  refine wpOp_of (o := wo8) rfl rfl ?_
  unfold Oper.wp
  rw [hr]
  have h2 := (h.mark 8 rfl (by simp [wD, d2, d6])).world (wF_val _ _ _ _ _) (h.bel.setCell (p := ⟨g8, 0, none⟩) lo (.int .i64 (wrapOf k a0)))
  exact ⟨g8, g9, h2, (fun _ => ⟨lo, by rw [ub_self]; exact heap_setCell_same w g8 0 _ _ _ row'⟩), (fun e => by rw [ub_ne (by decide)] at e; rw [ub_ne (by decide)]; exact ⟨(h9 e).1, (Below.heap_setCell w ⟨g8, 0, none⟩ _ g9 (fun e' => hne d6 e e'.symm)).trans (h9 e).2⟩), (fun e e' => hne (by rwa [ub_ne (by decide)] at e) (by rwa [ub_ne (by decide)] at e'))⟩
def wo9 : Oper := { dst := none, op := Go.Op.store 2 (Go.Operand.tmp 9) (Go.Operand.tmp 29), type := 0, pos := "outright.go:137", after := #[{ on := 7, ground := Go.Ground.data }, { on := 5, ground := Go.Ground.data }, { on := 8, ground := Go.Ground.chain }, { on := 0, ground := Go.Ground.phase }, { on := 1, ground := Go.Ground.phase }, { on := 2, ground := Go.Ground.phase }, { on := 3, ground := Go.Ground.phase }, { on := 4, ground := Go.Ground.phase }, { on := 5, ground := Go.Ground.phase }, { on := 6, ground := Go.Ground.phase }, { on := 7, ground := Go.Ground.phase }, { on := 8, ground := Go.Ground.phase }], guard := none }
theorem wstep9 (_ : w0.cell? ⟨K, 0, none⟩ = some (.int .u8 k)) : WStep K k a0 b0 x0 x3 x4 x5 x6 x10 x11 x12 x13 x14 x15 x16 x17 x18 x19 x20 x21 x22 x23 x30 x31 x32 x33 x34 x35 x36 x37 x38 x39 x40 x41 x42 x43 x44 x45 x46 x47 x48 x49 x50 x51 x52 x53 x54 x55 x56 x57 x58 x59 x60 x61 x62 x63 x64 x65 x66 x67 x68 x69 x70 x71 x72 x73 x74 x75 x76 x77 x78 x79 x80 x81 x82 x83 x84 x85 x86 x87 x88 x89 x90 x91 x92 x93 x94 x95 x96 x97 x98 x99 x100 x101 x102 x103 x104 x105 x106 x107 x108 x109 x110 x111 x112 x113 x114 x115 x116 x117 x118 x119 x120 x121 x122 x123 x124 x125 w0 Q 9 := by
  intro bb a w h hb hdep
  obtain ⟨g8, g9, h, h8, h9, hne⟩ := h
  have d5 : bb 5 = true := hdep wo9 rfl { on := 5, ground := .data } (by simp [wo9]) rfl
  have d7 : bb 7 = true := hdep wo9 rfl { on := 7, ground := .data } (by simp [wo9]) rfl
  have e9 : a.eval (.tmp 9) = .pointer (some ⟨g9, 0, none⟩) := h.got (i := 7) (cs := []) (s := .val (.pointer (some ⟨g9, 0, none⟩))) (by simp [wF]) d7 (by simp)
  have e29 : a.eval (.tmp 29) = .int .i64 (wrapOf k b0) := h.got (i := 5) (cs := []) (s := .val (.int .i64 (wrapOf k b0))) (by simp [wF]) d5 (by simp)
  obtain ⟨lo, row⟩ := h9 d7
  rw [hb] at row
  have row' : w.heap[g9]? = some (.cells #[.int .i64 0] 2 (0, 0)) := row
  have q0 : w.cell? ⟨g9, 0, none⟩ = some (.int .i64 0) := cell_of_row _ _ 0 _ _ _ row'
  have f0 : w.frozen? ⟨g9, 0, none⟩ = false := frozen_of_row w g9 _ _ _ row'
  have hr : (execOp a.eval wo9).run Try.prog w = .ok .skip (w.setCell ⟨g9, 0, none⟩ (.int .i64 (wrapOf k b0))) := by
    simp only [execOp, wo9, e9, e29]
    go_simp
  refine wpOp_of (o := wo9) rfl rfl ?_
  unfold Oper.wp
  rw [hr]
  have h2 := (h.mark 9 rfl (by simp [wD, d5, d7])).world (wF_val _ _ _ _ _) (h.bel.setCell (p := ⟨g9, 0, none⟩) lo (.int .i64 (wrapOf k b0)))
  exact ⟨g8, g9, h2, (fun e => by rw [ub_ne (by decide)] at e; rw [ub_ne (by decide)]; exact ⟨(h8 e).1, (Below.heap_setCell w ⟨g9, 0, none⟩ _ g8 (fun e' => hne e d7 e')).trans (h8 e).2⟩), (fun _ => ⟨lo, by rw [ub_self]; exact heap_setCell_same w g9 0 _ _ _ row'⟩), (fun e e' => hne (by rwa [ub_ne (by decide)] at e) (by rwa [ub_ne (by decide)] at e'))⟩
theorem w_hac : ∀ i o, wOps[i]? = some o → ∀ e ∈ o.after, Region.binds .any e = true → e.on < i := by
  have h : ((List.range wOps.size).all fun i => match wOps[i]? with | some o => o.after.all fun e => !(Region.binds .any e) || decide (e.on < i) | none => true) = true := by decide +kernel
  intro i o ho e he hb
  have hi : i < wOps.size := (Array.getElem?_eq_some_iff.1 ho).1
  have h1 := List.all_eq_true.1 h i (List.mem_range.2 hi)
  rw [ho] at h1
  have h2 := Array.all_eq_true_iff_forall_mem.1 h1 e he
  rw [hb] at h2
  exact of_decide_eq_true h2
set_option maxHeartbeats 1000000 in
set_option maxRecDepth 100000 in
theorem signs_region (C0 : w0.cell? ⟨K, 0, none⟩ = some (.int .u8 k)) (y8 y9 y24 y25 y26 y27 y28 y29 : Value) (cont : ∀ (u24 u25 u26 u27 u28 u29 : Value) (g8 g9 : Nat) (w1 : World), Below w0.heap.size w0 w1 → w1.cell? ⟨g8, 0, none⟩ = some (.int .i64 (wrapOf k a0)) → w1.cell? ⟨g9, 0, none⟩ = some (.int .i64 (wrapOf k b0)) → Q .normal ⟨#[x0, .int .i64 a0, .int .i64 b0, x3, x4, x5, x6, .pointer (some ⟨K, 0, none⟩), .pointer (some ⟨g8, 0, none⟩), .pointer (some ⟨g9, 0, none⟩), x10, x11, x12, x13, x14, x15, x16, x17, x18, x19, x20, x21, x22, x23, u24, u25, u26, u27, u28, u29, x30, x31, x32, x33, x34, x35, x36, x37, x38, x39, x40, x41, x42, x43, x44, x45, x46, x47, x48, x49, x50, x51, x52, x53, x54, x55, x56, x57, x58, x59, x60, x61, x62, x63, x64, x65, x66, x67, x68, x69, x70, x71, x72, x73, x74, x75, x76, x77, x78, x79, x80, x81, x82, x83, x84, x85, x86, x87, x88, x89, x90, x91, x92, x93, x94, x95, x96, x97, x98, x99, x100, x101, x102, x103, x104, x105, x106, x107, x108, x109, x110, x111, x112, x113, x114, x115, x116, x117, x118, x119, x120, x121, x122, x123, x124, x125], []⟩ w1) :
    (Code.region 2 wOps true).wp Try.prog Q ⟨#[x0, .int .i64 a0, .int .i64 b0, x3, x4, x5, x6, .pointer (some ⟨K, 0, none⟩), y8, y9, x10, x11, x12, x13, x14, x15, x16, x17, x18, x19, x20, x21, x22, x23, y24, y25, y26, y27, y28, y29, x30, x31, x32, x33, x34, x35, x36, x37, x38, x39, x40, x41, x42, x43, x44, x45, x46, x47, x48, x49, x50, x51, x52, x53, x54, x55, x56, x57, x58, x59, x60, x61, x62, x63, x64, x65, x66, x67, x68, x69, x70, x71, x72, x73, x74, x75, x76, x77, x78, x79, x80, x81, x82, x83, x84, x85, x86, x87, x88, x89, x90, x91, x92, x93, x94, x95, x96, x97, x98, x99, x100, x101, x102, x103, x104, x105, x106, x107, x108, x109, x110, x111, x112, x113, x114, x115, x116, x117, x118, x119, x120, x121, x122, x123, x124, x125], []⟩ w0 := by
  refine wp_region_inv (ops := wOps) (by kernel_rfl) w_hac (WI K k a0 b0 x0 x3 x4 x5 x6 x10 x11 x12 x13 x14 x15 x16 x17 x18 x19 x20 x21 x22 x23 x30 x31 x32 x33 x34 x35 x36 x37 x38 x39 x40 x41 x42 x43 x44 x45 x46 x47 x48 x49 x50 x51 x52 x53 x54 x55 x56 x57 x58 x59 x60 x61 x62 x63 x64 x65 x66 x67 x68 x69 x70 x71 x72 x73 x74 x75 x76 x77 x78 x79 x80 x81 x82 x83 x84 x85 x86 x87 x88 x89 x90 x91 x92 x93 x94 x95 x96 x97 x98 x99 x100 x101 x102 x103 x104 x105 x106 x107 x108 x109 x110 x111 x112 x113 x114 x115 x116 x117 x118 x119 x120 x121 x122 x123 x124 x125 w0) ?_ ?_ ?_
  · exact ⟨0, 0, { defers := rfl, size := rfl, fixed := (fun x hx => by
        simp only [wFix, List.mem_cons, List.not_mem_nil, or_false] at hx
        rcases hx with rfl | rfl | rfl | rfl | rfl | rfl | rfl | rfl | rfl | rfl | rfl | rfl | rfl | rfl | rfl | rfl | rfl | rfl | rfl | rfl | rfl | rfl | rfl | rfl | rfl | rfl | rfl | rfl | rfl | rfl | rfl | rfl | rfl | rfl | rfl | rfl | rfl | rfl | rfl | rfl | rfl | rfl | rfl | rfl | rfl | rfl | rfl | rfl | rfl | rfl | rfl | rfl | rfl | rfl | rfl | rfl | rfl | rfl | rfl | rfl | rfl | rfl | rfl | rfl | rfl | rfl | rfl | rfl | rfl | rfl | rfl | rfl | rfl | rfl | rfl | rfl | rfl | rfl | rfl | rfl | rfl | rfl | rfl | rfl | rfl | rfl | rfl | rfl | rfl | rfl | rfl | rfl | rfl | rfl | rfl | rfl | rfl | rfl | rfl | rfl | rfl | rfl | rfl | rfl | rfl | rfl | rfl | rfl | rfl | rfl | rfl | rfl | rfl | rfl | rfl | rfl | rfl | rfl
        all_goals rfl), bel := (Below.refl _ _).drew, f := (fun _ _ h => by cases h), dep := (fun _ _ h => by cases h) }, (fun h => by cases h), (fun h => by cases h), (fun h => by cases h)⟩
  · intro i hi
    change i < 10 at hi
    match i, hi with
    | 0, _ => exact wstep0 C0
    | 1, _ => exact wstep1 C0
    | 2, _ => exact wstep2 C0
    | 3, _ => exact wstep3 C0
    | 4, _ => exact wstep4 C0
    | 5, _ => exact wstep5 C0
    | 6, _ => exact wstep6 C0
    | 7, _ => exact wstep7 C0
    | 8, _ => exact wstep8 C0
    | 9, _ => exact wstep9 C0
    | n + 10, hi => exact absurd hi (by omega)
  · intro bb a w hall h
    obtain ⟨g8, g9, h, h8, h9, -⟩ := h
    have r8 := (h8 (hall 6 (by decide))).2
    have r9 := (h9 (hall 7 (by decide))).2
    rw [hall 8 (by decide)] at r8
    rw [hall 9 (by decide)] at r9
    have c8 : w.cell? ⟨g8, 0, none⟩ = some (.int .i64 (wrapOf k a0)) := cell_of_row _ _ 0 _ _ _ r8
    have c9 : w.cell? ⟨g9, 0, none⟩ = some (.int .i64 (wrapOf k b0)) := cell_of_row _ _ 0 _ _ _ r9
    have e0 : a.eval (.tmp 0) = x0 := h.fixed (0, x0) (by simp [wFix])
    have e1 : a.eval (.tmp 1) = .int .i64 a0 := h.fixed (1, .int .i64 a0) (by simp [wFix])
    have e2 : a.eval (.tmp 2) = .int .i64 b0 := h.fixed (2, .int .i64 b0) (by simp [wFix])
    have e3 : a.eval (.tmp 3) = x3 := h.fixed (3, x3) (by simp [wFix])
    have e4 : a.eval (.tmp 4) = x4 := h.fixed (4, x4) (by simp [wFix])
    have e5 : a.eval (.tmp 5) = x5 := h.fixed (5, x5) (by simp [wFix])
    have e6 : a.eval (.tmp 6) = x6 := h.fixed (6, x6) (by simp [wFix])
    have e7 : a.eval (.tmp 7) = .pointer (some ⟨K, 0, none⟩) := h.fixed (7, .pointer (some ⟨K, 0, none⟩)) (by simp [wFix])
    have e10 : a.eval (.tmp 10) = x10 := h.fixed (10, x10) (by simp [wFix])
    have e11 : a.eval (.tmp 11) = x11 := h.fixed (11, x11) (by simp [wFix])
    have e12 : a.eval (.tmp 12) = x12 := h.fixed (12, x12) (by simp [wFix])
    have e13 : a.eval (.tmp 13) = x13 := h.fixed (13, x13) (by simp [wFix])
    have e14 : a.eval (.tmp 14) = x14 := h.fixed (14, x14) (by simp [wFix])
    have e15 : a.eval (.tmp 15) = x15 := h.fixed (15, x15) (by simp [wFix])
    have e16 : a.eval (.tmp 16) = x16 := h.fixed (16, x16) (by simp [wFix])
    have e17 : a.eval (.tmp 17) = x17 := h.fixed (17, x17) (by simp [wFix])
    have e18 : a.eval (.tmp 18) = x18 := h.fixed (18, x18) (by simp [wFix])
    have e19 : a.eval (.tmp 19) = x19 := h.fixed (19, x19) (by simp [wFix])
    have e20 : a.eval (.tmp 20) = x20 := h.fixed (20, x20) (by simp [wFix])
    have e21 : a.eval (.tmp 21) = x21 := h.fixed (21, x21) (by simp [wFix])
    have e22 : a.eval (.tmp 22) = x22 := h.fixed (22, x22) (by simp [wFix])
    have e23 : a.eval (.tmp 23) = x23 := h.fixed (23, x23) (by simp [wFix])
    have e30 : a.eval (.tmp 30) = x30 := h.fixed (30, x30) (by simp [wFix])
    have e31 : a.eval (.tmp 31) = x31 := h.fixed (31, x31) (by simp [wFix])
    have e32 : a.eval (.tmp 32) = x32 := h.fixed (32, x32) (by simp [wFix])
    have e33 : a.eval (.tmp 33) = x33 := h.fixed (33, x33) (by simp [wFix])
    have e34 : a.eval (.tmp 34) = x34 := h.fixed (34, x34) (by simp [wFix])
    have e35 : a.eval (.tmp 35) = x35 := h.fixed (35, x35) (by simp [wFix])
    have e36 : a.eval (.tmp 36) = x36 := h.fixed (36, x36) (by simp [wFix])
    have e37 : a.eval (.tmp 37) = x37 := h.fixed (37, x37) (by simp [wFix])
    have e38 : a.eval (.tmp 38) = x38 := h.fixed (38, x38) (by simp [wFix])
    have e39 : a.eval (.tmp 39) = x39 := h.fixed (39, x39) (by simp [wFix])
    have e40 : a.eval (.tmp 40) = x40 := h.fixed (40, x40) (by simp [wFix])
    have e41 : a.eval (.tmp 41) = x41 := h.fixed (41, x41) (by simp [wFix])
    have e42 : a.eval (.tmp 42) = x42 := h.fixed (42, x42) (by simp [wFix])
    have e43 : a.eval (.tmp 43) = x43 := h.fixed (43, x43) (by simp [wFix])
    have e44 : a.eval (.tmp 44) = x44 := h.fixed (44, x44) (by simp [wFix])
    have e45 : a.eval (.tmp 45) = x45 := h.fixed (45, x45) (by simp [wFix])
    have e46 : a.eval (.tmp 46) = x46 := h.fixed (46, x46) (by simp [wFix])
    have e47 : a.eval (.tmp 47) = x47 := h.fixed (47, x47) (by simp [wFix])
    have e48 : a.eval (.tmp 48) = x48 := h.fixed (48, x48) (by simp [wFix])
    have e49 : a.eval (.tmp 49) = x49 := h.fixed (49, x49) (by simp [wFix])
    have e50 : a.eval (.tmp 50) = x50 := h.fixed (50, x50) (by simp [wFix])
    have e51 : a.eval (.tmp 51) = x51 := h.fixed (51, x51) (by simp [wFix])
    have e52 : a.eval (.tmp 52) = x52 := h.fixed (52, x52) (by simp [wFix])
    have e53 : a.eval (.tmp 53) = x53 := h.fixed (53, x53) (by simp [wFix])
    have e54 : a.eval (.tmp 54) = x54 := h.fixed (54, x54) (by simp [wFix])
    have e55 : a.eval (.tmp 55) = x55 := h.fixed (55, x55) (by simp [wFix])
    have e56 : a.eval (.tmp 56) = x56 := h.fixed (56, x56) (by simp [wFix])
    have e57 : a.eval (.tmp 57) = x57 := h.fixed (57, x57) (by simp [wFix])
    have e58 : a.eval (.tmp 58) = x58 := h.fixed (58, x58) (by simp [wFix])
    have e59 : a.eval (.tmp 59) = x59 := h.fixed (59, x59) (by simp [wFix])
    have e60 : a.eval (.tmp 60) = x60 := h.fixed (60, x60) (by simp [wFix])
    have e61 : a.eval (.tmp 61) = x61 := h.fixed (61, x61) (by simp [wFix])
    have e62 : a.eval (.tmp 62) = x62 := h.fixed (62, x62) (by simp [wFix])
    have e63 : a.eval (.tmp 63) = x63 := h.fixed (63, x63) (by simp [wFix])
    have e64 : a.eval (.tmp 64) = x64 := h.fixed (64, x64) (by simp [wFix])
    have e65 : a.eval (.tmp 65) = x65 := h.fixed (65, x65) (by simp [wFix])
    have e66 : a.eval (.tmp 66) = x66 := h.fixed (66, x66) (by simp [wFix])
    have e67 : a.eval (.tmp 67) = x67 := h.fixed (67, x67) (by simp [wFix])
    have e68 : a.eval (.tmp 68) = x68 := h.fixed (68, x68) (by simp [wFix])
    have e69 : a.eval (.tmp 69) = x69 := h.fixed (69, x69) (by simp [wFix])
    have e70 : a.eval (.tmp 70) = x70 := h.fixed (70, x70) (by simp [wFix])
    have e71 : a.eval (.tmp 71) = x71 := h.fixed (71, x71) (by simp [wFix])
    have e72 : a.eval (.tmp 72) = x72 := h.fixed (72, x72) (by simp [wFix])
    have e73 : a.eval (.tmp 73) = x73 := h.fixed (73, x73) (by simp [wFix])
    have e74 : a.eval (.tmp 74) = x74 := h.fixed (74, x74) (by simp [wFix])
    have e75 : a.eval (.tmp 75) = x75 := h.fixed (75, x75) (by simp [wFix])
    have e76 : a.eval (.tmp 76) = x76 := h.fixed (76, x76) (by simp [wFix])
    have e77 : a.eval (.tmp 77) = x77 := h.fixed (77, x77) (by simp [wFix])
    have e78 : a.eval (.tmp 78) = x78 := h.fixed (78, x78) (by simp [wFix])
    have e79 : a.eval (.tmp 79) = x79 := h.fixed (79, x79) (by simp [wFix])
    have e80 : a.eval (.tmp 80) = x80 := h.fixed (80, x80) (by simp [wFix])
    have e81 : a.eval (.tmp 81) = x81 := h.fixed (81, x81) (by simp [wFix])
    have e82 : a.eval (.tmp 82) = x82 := h.fixed (82, x82) (by simp [wFix])
    have e83 : a.eval (.tmp 83) = x83 := h.fixed (83, x83) (by simp [wFix])
    have e84 : a.eval (.tmp 84) = x84 := h.fixed (84, x84) (by simp [wFix])
    have e85 : a.eval (.tmp 85) = x85 := h.fixed (85, x85) (by simp [wFix])
    have e86 : a.eval (.tmp 86) = x86 := h.fixed (86, x86) (by simp [wFix])
    have e87 : a.eval (.tmp 87) = x87 := h.fixed (87, x87) (by simp [wFix])
    have e88 : a.eval (.tmp 88) = x88 := h.fixed (88, x88) (by simp [wFix])
    have e89 : a.eval (.tmp 89) = x89 := h.fixed (89, x89) (by simp [wFix])
    have e90 : a.eval (.tmp 90) = x90 := h.fixed (90, x90) (by simp [wFix])
    have e91 : a.eval (.tmp 91) = x91 := h.fixed (91, x91) (by simp [wFix])
    have e92 : a.eval (.tmp 92) = x92 := h.fixed (92, x92) (by simp [wFix])
    have e93 : a.eval (.tmp 93) = x93 := h.fixed (93, x93) (by simp [wFix])
    have e94 : a.eval (.tmp 94) = x94 := h.fixed (94, x94) (by simp [wFix])
    have e95 : a.eval (.tmp 95) = x95 := h.fixed (95, x95) (by simp [wFix])
    have e96 : a.eval (.tmp 96) = x96 := h.fixed (96, x96) (by simp [wFix])
    have e97 : a.eval (.tmp 97) = x97 := h.fixed (97, x97) (by simp [wFix])
    have e98 : a.eval (.tmp 98) = x98 := h.fixed (98, x98) (by simp [wFix])
    have e99 : a.eval (.tmp 99) = x99 := h.fixed (99, x99) (by simp [wFix])
    have e100 : a.eval (.tmp 100) = x100 := h.fixed (100, x100) (by simp [wFix])
    have e101 : a.eval (.tmp 101) = x101 := h.fixed (101, x101) (by simp [wFix])
    have e102 : a.eval (.tmp 102) = x102 := h.fixed (102, x102) (by simp [wFix])
    have e103 : a.eval (.tmp 103) = x103 := h.fixed (103, x103) (by simp [wFix])
    have e104 : a.eval (.tmp 104) = x104 := h.fixed (104, x104) (by simp [wFix])
    have e105 : a.eval (.tmp 105) = x105 := h.fixed (105, x105) (by simp [wFix])
    have e106 : a.eval (.tmp 106) = x106 := h.fixed (106, x106) (by simp [wFix])
    have e107 : a.eval (.tmp 107) = x107 := h.fixed (107, x107) (by simp [wFix])
    have e108 : a.eval (.tmp 108) = x108 := h.fixed (108, x108) (by simp [wFix])
    have e109 : a.eval (.tmp 109) = x109 := h.fixed (109, x109) (by simp [wFix])
    have e110 : a.eval (.tmp 110) = x110 := h.fixed (110, x110) (by simp [wFix])
    have e111 : a.eval (.tmp 111) = x111 := h.fixed (111, x111) (by simp [wFix])
    have e112 : a.eval (.tmp 112) = x112 := h.fixed (112, x112) (by simp [wFix])
    have e113 : a.eval (.tmp 113) = x113 := h.fixed (113, x113) (by simp [wFix])
    have e114 : a.eval (.tmp 114) = x114 := h.fixed (114, x114) (by simp [wFix])
    have e115 : a.eval (.tmp 115) = x115 := h.fixed (115, x115) (by simp [wFix])
    have e116 : a.eval (.tmp 116) = x116 := h.fixed (116, x116) (by simp [wFix])
    have e117 : a.eval (.tmp 117) = x117 := h.fixed (117, x117) (by simp [wFix])
    have e118 : a.eval (.tmp 118) = x118 := h.fixed (118, x118) (by simp [wFix])
    have e119 : a.eval (.tmp 119) = x119 := h.fixed (119, x119) (by simp [wFix])
    have e120 : a.eval (.tmp 120) = x120 := h.fixed (120, x120) (by simp [wFix])
    have e121 : a.eval (.tmp 121) = x121 := h.fixed (121, x121) (by simp [wFix])
    have e122 : a.eval (.tmp 122) = x122 := h.fixed (122, x122) (by simp [wFix])
    have e123 : a.eval (.tmp 123) = x123 := h.fixed (123, x123) (by simp [wFix])
    have e124 : a.eval (.tmp 124) = x124 := h.fixed (124, x124) (by simp [wFix])
    have e125 : a.eval (.tmp 125) = x125 := h.fixed (125, x125) (by simp [wFix])
    have e8 : a.eval (.tmp 8) = .pointer (some ⟨g8, 0, none⟩) := h.got (i := 6) (cs := []) (s := .val (.pointer (some ⟨g8, 0, none⟩))) (by simp [wF]) (hall 6 (by decide)) (by simp)
    have e9 : a.eval (.tmp 9) = .pointer (some ⟨g9, 0, none⟩) := h.got (i := 7) (cs := []) (s := .val (.pointer (some ⟨g9, 0, none⟩))) (by simp [wF]) (hall 7 (by decide)) (by simp)
    have h1 := arr_lits a.tmps 126 h.size
    have h2 : ((List.range 126).map fun i => a.tmps.getD i undef) = [a.eval (.tmp 0), a.eval (.tmp 1), a.eval (.tmp 2), a.eval (.tmp 3), a.eval (.tmp 4), a.eval (.tmp 5), a.eval (.tmp 6), a.eval (.tmp 7), a.eval (.tmp 8), a.eval (.tmp 9), a.eval (.tmp 10), a.eval (.tmp 11), a.eval (.tmp 12), a.eval (.tmp 13), a.eval (.tmp 14), a.eval (.tmp 15), a.eval (.tmp 16), a.eval (.tmp 17), a.eval (.tmp 18), a.eval (.tmp 19), a.eval (.tmp 20), a.eval (.tmp 21), a.eval (.tmp 22), a.eval (.tmp 23), a.eval (.tmp 24), a.eval (.tmp 25), a.eval (.tmp 26), a.eval (.tmp 27), a.eval (.tmp 28), a.eval (.tmp 29), a.eval (.tmp 30), a.eval (.tmp 31), a.eval (.tmp 32), a.eval (.tmp 33), a.eval (.tmp 34), a.eval (.tmp 35), a.eval (.tmp 36), a.eval (.tmp 37), a.eval (.tmp 38), a.eval (.tmp 39), a.eval (.tmp 40), a.eval (.tmp 41), a.eval (.tmp 42), a.eval (.tmp 43), a.eval (.tmp 44), a.eval (.tmp 45), a.eval (.tmp 46), a.eval (.tmp 47), a.eval (.tmp 48), a.eval (.tmp 49), a.eval (.tmp 50), a.eval (.tmp 51), a.eval (.tmp 52), a.eval (.tmp 53), a.eval (.tmp 54), a.eval (.tmp 55), a.eval (.tmp 56), a.eval (.tmp 57), a.eval (.tmp 58), a.eval (.tmp 59), a.eval (.tmp 60), a.eval (.tmp 61), a.eval (.tmp 62), a.eval (.tmp 63), a.eval (.tmp 64), a.eval (.tmp 65), a.eval (.tmp 66), a.eval (.tmp 67), a.eval (.tmp 68), a.eval (.tmp 69), a.eval (.tmp 70), a.eval (.tmp 71), a.eval (.tmp 72), a.eval (.tmp 73), a.eval (.tmp 74), a.eval (.tmp 75), a.eval (.tmp 76), a.eval (.tmp 77), a.eval (.tmp 78), a.eval (.tmp 79), a.eval (.tmp 80), a.eval (.tmp 81), a.eval (.tmp 82), a.eval (.tmp 83), a.eval (.tmp 84), a.eval (.tmp 85), a.eval (.tmp 86), a.eval (.tmp 87), a.eval (.tmp 88), a.eval (.tmp 89), a.eval (.tmp 90), a.eval (.tmp 91), a.eval (.tmp 92), a.eval (.tmp 93), a.eval (.tmp 94), a.eval (.tmp 95), a.eval (.tmp 96), a.eval (.tmp 97), a.eval (.tmp 98), a.eval (.tmp 99), a.eval (.tmp 100), a.eval (.tmp 101), a.eval (.tmp 102), a.eval (.tmp 103), a.eval (.tmp 104), a.eval (.tmp 105), a.eval (.tmp 106), a.eval (.tmp 107), a.eval (.tmp 108), a.eval (.tmp 109), a.eval (.tmp 110), a.eval (.tmp 111), a.eval (.tmp 112), a.eval (.tmp 113), a.eval (.tmp 114), a.eval (.tmp 115), a.eval (.tmp 116), a.eval (.tmp 117), a.eval (.tmp 118), a.eval (.tmp 119), a.eval (.tmp 120), a.eval (.tmp 121), a.eval (.tmp 122), a.eval (.tmp 123), a.eval (.tmp 124), a.eval (.tmp 125)] := rfl
    rw [h2, e8, e9, e0, e1, e2, e3, e4, e5, e6, e7, e10, e11, e12, e13, e14, e15, e16, e17, e18, e19, e20, e21, e22, e23, e30, e31, e32, e33, e34, e35, e36, e37, e38, e39, e40, e41, e42, e43, e44, e45, e46, e47, e48, e49, e50, e51, e52, e53, e54, e55, e56, e57, e58, e59, e60, e61, e62, e63, e64, e65, e66, e67, e68, e69, e70, e71, e72, e73, e74, e75, e76, e77, e78, e79, e80, e81, e82, e83, e84, e85, e86, e87, e88, e89, e90, e91, e92, e93, e94, e95, e96, e97, e98, e99, e100, e101, e102, e103, e104, e105, e106, e107, e108, e109, e110, e111, e112, e113, e114, e115, e116, e117, e118, e119, e120, e121, e122, e123, e124, e125] at h1
    have hd := h.defers
    have hbel := h.bel
    clear h2 h
    obtain ⟨tm, df⟩ := a
    simp only at h1 hd
    subst hd
    generalize Act.eval ⟨tm, []⟩ (.tmp 24) = u24, Act.eval ⟨tm, []⟩ (.tmp 25) = u25, Act.eval ⟨tm, []⟩ (.tmp 26) = u26, Act.eval ⟨tm, []⟩ (.tmp 27) = u27, Act.eval ⟨tm, []⟩ (.tmp 28) = u28, Act.eval ⟨tm, []⟩ (.tmp 29) = u29 at h1
    subst h1
    exact cont _ _ _ _ _ _ g8 g9 w hbel c8 c9
end
end Go.Proofs.Ytiogpainajokkaa
