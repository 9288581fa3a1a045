/- ScanRestarts's closure: a restart of what is kept and one more (a region that draws its order). Printed by regx.py. -/
import Derived.Test.YtiogpainajokkaaRgx
import Derived.Test.YtiogpainajokkaaPlyM
import Derived.IntWalk
import Derived.Laws.EntriesVeiled
namespace Go.Proofs.Ytiogpainajokkaa
open Go.RowKit
def rsOps : Array Oper := #[{ dst := some 112, op := Go.Op.load 26 (Go.Operand.tmp 7), type := 26, pos := "outright.go:128", after := #[], guard := none },
  { dst := some 113, op := Go.Op.buildSlice 31 0 #[], type := 31, pos := "outright.go:128", after := #[], guard := none },
  { dst := some 114, op := Go.Op.move (Go.Operand.tmp 17), type := 31, pos := "outright.go:128", after := #[], guard := none },
  { dst := some 115, op := Go.Op.call { callee := Go.Callee.builtin Go.Builtin.append, args := #[Go.Operand.tmp 113, Go.Operand.tmp 114], argTypes := #[31, 31] }, type := 31, pos := "outright.go:128", after := #[{ on := 1, ground := Go.Ground.data }, { on := 2, ground := Go.Ground.data }], guard := none },
  { dst := some 116, op := Go.Op.buildSlice 31 1 #[(0, Go.Operand.const (Go.Value.int Go.IntKind.i64 0))], type := 31, pos := "outright.go:128", after := #[], guard := none },
  { dst := some 117, op := Go.Op.call { callee := Go.Callee.builtin Go.Builtin.append, args := #[Go.Operand.tmp 115, Go.Operand.tmp 116], argTypes := #[31, 31] }, type := 31, pos := "outright.go:128", after := #[{ on := 3, ground := Go.Ground.data }, { on := 4, ground := Go.Ground.data }, { on := 3, ground := Go.Ground.chain }], guard := none },
  { dst := some 118, op := Go.Op.call { callee := Go.Callee.value (Go.Operand.func 27), args := #[Go.Operand.tmp 112, Go.Operand.tmp 117], argTypes := #[26, 31] }, type := 50, pos := "outright.go:128", after := #[{ on := 0, ground := Go.Ground.data }, { on := 5, ground := Go.Ground.data }, { on := 5, ground := Go.Ground.chain }], guard := none },
  { dst := some 111, op := Go.Op.move (Go.Operand.tmp 118), type := 50, pos := "outright.go:128", after := #[{ on := 6, ground := Go.Ground.data }], guard := none },
  { dst := some 119, op := Go.Op.extract (Go.Operand.tmp 111) 0, type := 34, pos := "outright.go:128", after := #[{ on := 7, ground := Go.Ground.data }], guard := none },
  { dst := some 120, op := Go.Op.extract (Go.Operand.tmp 111) 1, type := 35, pos := "outright.go:128", after := #[{ on := 7, ground := Go.Ground.data }, { on := 11, ground := Go.Ground.gcOnly Go.Departure.lateStores }], guard := none },
  { dst := some 23, op := Go.Op.alloc 34, type := 0, pos := "outright.go:128", after := #[], guard := none },
  { dst := none, op := Go.Op.store 34 (Go.Operand.tmp 23) (Go.Operand.tmp 119), type := 0, pos := "outright.go:128", after := #[{ on := 10, ground := Go.Ground.data }, { on := 8, ground := Go.Ground.data }, { on := 6, ground := Go.Ground.chain }, { on := 0, ground := Go.Ground.phase }, { on := 1, ground := Go.Ground.phase }, { on := 2, ground := Go.Ground.phase }, { on := 3, ground := Go.Ground.phase }, { on := 4, ground := Go.Ground.phase }, { on := 5, ground := Go.Ground.phase }, { on := 6, ground := Go.Ground.phase }, { on := 7, ground := Go.Ground.phase }, { on := 8, ground := Go.Ground.phase }, { on := 9, ground := Go.Ground.textOnly Go.Departure.lateStores }, { on := 10, ground := Go.Ground.phase }], guard := none },
  { dst := some 24, op := Go.Op.assign (Go.Operand.tmp 120), type := 35, pos := "outright.go:128", after := #[{ on := 9, ground := Go.Ground.data }, { on := 11, ground := Go.Ground.chain }, { on := 0, ground := Go.Ground.phase }, { on := 1, ground := Go.Ground.phase }, { on := 2, ground := Go.Ground.phase }, { on := 3, ground := Go.Ground.phase }, { on := 4, ground := Go.Ground.phase }, { on := 5, ground := Go.Ground.phase }, { on := 6, ground := Go.Ground.phase }, { on := 7, ground := Go.Ground.phase }, { on := 8, ground := Go.Ground.phase }, { on := 9, ground := Go.Ground.phase }, { on := 10, ground := Go.Ground.phase }, { on := 11, ground := Go.Ground.phase }], guard := none }]
def rsF (B0 : Nat) (_ : Nat) (c : GCode) (A1 A2 A3 : Option Addr) (c1 c2 c3 : Nat) (kp : List Int) (AK : Option Addr) (nK cK : Nat) : List XClaim := [(0, [], 112, .val (.agg #[.string c.name, .slice A1 c.vars.length c1, .slice A2 c.blocks.length c2, .slice A3 c.ins.length c3])), (1, [3], 113, rowX 2 1 oneI64 B0 ([])), (2, [], 114, .val (.slice AK nK cK)), (3, [5], 115, rowX 2 1 oneI64 B0 (kp)), (4, [], 116, rowX 2 1 oneI64 B0 ([0])), (5, [], 117, rowX 2 1 oneI64 B0 (kp ++ [0])), (6, [], 118, pureX (fun v => ∃ (A : Option Addr) (n q : Nat) (A' : Option Addr) (n' q' : Nat), v = .tuple #[.agg #[.slice A n q, .slice A' n' q'], .int .i64 161])), (7, [], 111, pureX (fun v => ∃ (A : Option Addr) (n q : Nat) (A' : Option Addr) (n' q' : Nat), v = .tuple #[.agg #[.slice A n q, .slice A' n' q'], .int .i64 161])), (8, [], 119, pureX (fun v => ∃ (A : Option Addr) (n q : Nat) (A' : Option Addr) (n' q' : Nat), v = .agg #[.slice A n q, .slice A' n' q'])), (9, [], 120, .val (.int .i64 161)), (10, [11], 23, boxX B0 34 #[.slice none 0 0, .slice none 0 0]), (12, [], 24, .val (.int .i64 161))]
def rsD : List (Nat × Nat) := [(3, 1), (3, 2), (5, 3), (5, 4), (6, 0), (6, 5), (7, 6), (8, 7), (9, 7), (11, 6), (11, 8), (11, 10), (12, 9), (12, 11)]
def rsFix (X : Nat) (_ : GCode) (_ _ _ : Option Addr) (_ _ _ : Nat) (_ : List Int) (AK : Option Addr) (nK cK : Nat) (x0 x1 x2 x3 x4 x5 x6 x8 x9 x10 x11 x12 x13 x14 x15 x16 x18 x19 x20 x21 x22 x25 x26 x27 x28 x29 x30 x31 x32 x33 x34 x35 x36 x37 x38 x39 x40 x41 x42 x43 x44 x45 x46 x47 x48 x49 x50 x51 x52 x53 x54 x55 x56 x57 x58 x59 x60 x61 x62 x63 x64 x65 x66 x67 x68 x69 x70 x71 x72 x73 x74 x75 x76 x77 x78 x79 x80 x81 x82 x83 x84 x85 x86 x87 x88 x89 x90 x91 x92 x93 x94 x95 x96 x97 x98 x99 x100 x101 x102 x103 x104 x105 x106 x107 x108 x109 x110 x121 x122 : Value) : List (Nat × Value) := [(0, x0), (1, x1), (2, x2), (3, x3), (4, x4), (5, x5), (6, x6), (7, .pointer (some ⟨X, 0, none⟩)), (8, x8), (9, x9), (10, x10), (11, x11), (12, x12), (13, x13), (14, x14), (15, x15), (16, x16), (17, .slice AK nK cK), (18, x18), (19, x19), (20, x20), (21, x21), (22, x22), (25, x25), (26, x26), (27, x27), (28, x28), (29, x29), (30, x30), (31, x31), (32, x32), (33, x33), (34, x34), (35, x35), (36, x36), (37, x37), (38, x38), (39, x39), (40, x40), (41, x41), (42, x42), (43, x43), (44, x44), (45, x45), (46, x46), (47, x47), (48, x48), (49, x49), (50, x50), (51, x51), (52, x52), (53, x53), (54, x54), (55, x55), (56, x56), (57, x57), (58, x58), (59, x59), (60, x60), (61, x61), (62, x62), (63, x63), (64, x64), (65, x65), (66, x66), (67, x67), (68, x68), (69, x69), (70, x70), (71, x71), (72, x72), (73, x73), (74, x74), (75, x75), (76, x76), (77, x77), (78, x78), (79, x79), (80, x80), (81, x81), (82, x82), (83, x83), (84, x84), (85, x85), (86, x86), (87, x87), (88, x88), (89, x89), (90, x90), (91, x91), (92, x92), (93, x93), (94, x94), (95, x95), (96, x96), (97, x97), (98, x98), (99, x99), (100, x100), (101, x101), (102, x102), (103, x103), (104, x104), (105, x105), (106, x106), (107, x107), (108, x108), (109, x109), (110, x110), (121, x121), (122, x122)]
theorem rsF_fine (B0 : Nat) (X : Nat) (c : GCode) (A1 A2 A3 : Option Addr) (c1 c2 c3 : Nat) (kp : List Int) (AK : Option Addr) (nK cK : Nat) : ∀ x ∈ rsF B0 X c A1 A2 A3 c1 c2 c3 kp AK nK cK, x.2.2.2.Fine B0 := by
  intro x hx
  simp only [rsF, List.mem_cons, List.not_mem_nil, or_false] at hx
  rcases hx with rfl | rfl | rfl | rfl | rfl | rfl | rfl | rfl | rfl | rfl | rfl | rfl
  · exact trivial
  · exact rowX_fine _ _ _ _ _
  · exact trivial
  · exact rowX_fine _ _ _ _ _
  · exact rowX_fine _ _ _ _ _
  · exact rowX_fine _ _ _ _ _
  · exact pureX_fine _ _
  · exact pureX_fine _ _
  · exact pureX_fine _ _
  · exact trivial
  · exact boxX_fine _ _ _
  · exact trivial
theorem rsF_uniq (B0 : Nat) (X : Nat) (c : GCode) (A1 A2 A3 : Option Addr) (c1 c2 c3 : Nat) (kp : List Int) (AK : Option Addr) (nK cK : Nat) : ∀ x ∈ rsF B0 X c A1 A2 A3 c1 c2 c3 kp AK nK cK, ∀ y ∈ rsF B0 X c A1 A2 A3 c1 c2 c3 kp AK nK cK, x.1 = y.1 → x = y := by
  intro x hx y hy e
  simp only [rsF, List.mem_cons, List.not_mem_nil, or_false] at hx hy
  rcases hx with rfl | rfl | rfl | rfl | rfl | rfl | rfl | rfl | rfl | rfl | rfl | rfl <;> rcases hy with rfl | rfl | rfl | rfl | rfl | rfl | rfl | rfl | rfl | rfl | rfl | rfl <;> first | rfl | (simp at e; done)
structure rsCtx (X : Nat) (c : GCode) (A1 A2 A3 : Option Addr) (c1 c2 c3 : Nat) (kp : List Int) (AK : Option Addr) (nK cK : Nat) (w0 : World) : Prop where
  hw : c.Wf
  hn : (c.ins.length : Int) < 9223372036854775807
  box : w0.heap[X]? = some (.cells #[.string c.name, .slice A1 c.vars.length c1, .slice A2 c.blocks.length c2, .slice A3 c.ins.length c3] 26 (0, 0))
  rd : CodeRd w0 c (.slice A1 c.vars.length c1) (.slice A2 c.blocks.length c2) (.slice A3 c.ins.length c3)
  rk : Rd oneI64 1 w0 (.slice AK nK cK) kp
  m : kp.length ≤ 100000
  res : restB c (kp ++ [0]) = (⟨[], []⟩, 161)
abbrev rsSt (X : Nat) (c : GCode) (A1 A2 A3 : Option Addr) (c1 c2 c3 : Nat) (kp : List Int) (AK : Option Addr) (nK cK : Nat) (x0 x1 x2 x3 x4 x5 x6 x8 x9 x10 x11 x12 x13 x14 x15 x16 x18 x19 x20 x21 x22 x25 x26 x27 x28 x29 x30 x31 x32 x33 x34 x35 x36 x37 x38 x39 x40 x41 x42 x43 x44 x45 x46 x47 x48 x49 x50 x51 x52 x53 x54 x55 x56 x57 x58 x59 x60 x61 x62 x63 x64 x65 x66 x67 x68 x69 x70 x71 x72 x73 x74 x75 x76 x77 x78 x79 x80 x81 x82 x83 x84 x85 x86 x87 x88 x89 x90 x91 x92 x93 x94 x95 x96 x97 x98 x99 x100 x101 x102 x103 x104 x105 x106 x107 x108 x109 x110 x121 x122 : Value) (w0 : World) (b : Nat → Bool) (a : Act) (w : World) : Prop := RegX (rsF w0.heap.size X c A1 A2 A3 c1 c2 c3 kp AK nK cK) rsD (rsFix X c A1 A2 A3 c1 c2 c3 kp AK nK cK x0 x1 x2 x3 x4 x5 x6 x8 x9 x10 x11 x12 x13 x14 x15 x16 x18 x19 x20 x21 x22 x25 x26 x27 x28 x29 x30 x31 x32 x33 x34 x35 x36 x37 x38 x39 x40 x41 x42 x43 x44 x45 x46 x47 x48 x49 x50 x51 x52 x53 x54 x55 x56 x57 x58 x59 x60 x61 x62 x63 x64 x65 x66 x67 x68 x69 x70 x71 x72 x73 x74 x75 x76 x77 x78 x79 x80 x81 x82 x83 x84 x85 x86 x87 x88 x89 x90 x91 x92 x93 x94 x95 x96 x97 x98 x99 x100 x101 x102 x103 x104 x105 x106 x107 x108 x109 x110 x121 x122) w0 123 b a w
def rsStep (X : Nat) (c : GCode) (A1 A2 A3 : Option Addr) (c1 c2 c3 : Nat) (kp : List Int) (AK : Option Addr) (nK cK : Nat) (x0 x1 x2 x3 x4 x5 x6 x8 x9 x10 x11 x12 x13 x14 x15 x16 x18 x19 x20 x21 x22 x25 x26 x27 x28 x29 x30 x31 x32 x33 x34 x35 x36 x37 x38 x39 x40 x41 x42 x43 x44 x45 x46 x47 x48 x49 x50 x51 x52 x53 x54 x55 x56 x57 x58 x59 x60 x61 x62 x63 x64 x65 x66 x67 x68 x69 x70 x71 x72 x73 x74 x75 x76 x77 x78 x79 x80 x81 x82 x83 x84 x85 x86 x87 x88 x89 x90 x91 x92 x93 x94 x95 x96 x97 x98 x99 x100 x101 x102 x103 x104 x105 x106 x107 x108 x109 x110 x121 x122 : Value) (w0 : World) (Q : Exit → Act → World → Prop) (i : Nat) : Prop := ∀ b a w, rsSt X c A1 A2 A3 c1 c2 c3 kp AK nK cK x0 x1 x2 x3 x4 x5 x6 x8 x9 x10 x11 x12 x13 x14 x15 x16 x18 x19 x20 x21 x22 x25 x26 x27 x28 x29 x30 x31 x32 x33 x34 x35 x36 x37 x38 x39 x40 x41 x42 x43 x44 x45 x46 x47 x48 x49 x50 x51 x52 x53 x54 x55 x56 x57 x58 x59 x60 x61 x62 x63 x64 x65 x66 x67 x68 x69 x70 x71 x72 x73 x74 x75 x76 x77 x78 x79 x80 x81 x82 x83 x84 x85 x86 x87 x88 x89 x90 x91 x92 x93 x94 x95 x96 x97 x98 x99 x100 x101 x102 x103 x104 x105 x106 x107 x108 x109 x110 x121 x122 w0 b a w → b i = false → (∀ o, rsOps[i]? = some o → ∀ e ∈ o.after, Region.binds .any e = true → b e.on = true) → wpOp Try.prog rsOps Q i (rsSt X c A1 A2 A3 c1 c2 c3 kp AK nK cK x0 x1 x2 x3 x4 x5 x6 x8 x9 x10 x11 x12 x13 x14 x15 x16 x18 x19 x20 x21 x22 x25 x26 x27 x28 x29 x30 x31 x32 x33 x34 x35 x36 x37 x38 x39 x40 x41 x42 x43 x44 x45 x46 x47 x48 x49 x50 x51 x52 x53 x54 x55 x56 x57 x58 x59 x60 x61 x62 x63 x64 x65 x66 x67 x68 x69 x70 x71 x72 x73 x74 x75 x76 x77 x78 x79 x80 x81 x82 x83 x84 x85 x86 x87 x88 x89 x90 x91 x92 x93 x94 x95 x96 x97 x98 x99 x100 x101 x102 x103 x104 x105 x106 x107 x108 x109 x110 x121 x122 w0 (ub b i)) a w
section
variable {X : Nat} {c : GCode} {A1 A2 A3 : Option Addr} {c1 c2 c3 : Nat} {kp : List Int} {AK : Option Addr} {nK cK : Nat} {x0 x1 x2 x3 x4 x5 x6 x8 x9 x10 x11 x12 x13 x14 x15 x16 x18 x19 x20 x21 x22 x25 x26 x27 x28 x29 x30 x31 x32 x33 x34 x35 x36 x37 x38 x39 x40 x41 x42 x43 x44 x45 x46 x47 x48 x49 x50 x51 x52 x53 x54 x55 x56 x57 x58 x59 x60 x61 x62 x63 x64 x65 x66 x67 x68 x69 x70 x71 x72 x73 x74 x75 x76 x77 x78 x79 x80 x81 x82 x83 x84 x85 x86 x87 x88 x89 x90 x91 x92 x93 x94 x95 x96 x97 x98 x99 x100 x101 x102 x103 x104 x105 x106 x107 x108 x109 x110 x121 x122 : Value} {w0 : World} {Q : Exit → Act → World → Prop}
def rso0 : Oper := { dst := some 112, op := Go.Op.load 26 (Go.Operand.tmp 7), type := 26, pos := "outright.go:128", after := #[], guard := none }
theorem rsstep0 (C : rsCtx X c A1 A2 A3 c1 c2 c3 kp AK nK cK w0) : rsStep X c A1 A2 A3 c1 c2 c3 kp AK nK cK x0 x1 x2 x3 x4 x5 x6 x8 x9 x10 x11 x12 x13 x14 x15 x16 x18 x19 x20 x21 x22 x25 x26 x27 x28 x29 x30 x31 x32 x33 x34 x35 x36 x37 x38 x39 x40 x41 x42 x43 x44 x45 x46 x47 x48 x49 x50 x51 x52 x53 x54 x55 x56 x57 x58 x59 x60 x61 x62 x63 x64 x65 x66 x67 x68 x69 x70 x71 x72 x73 x74 x75 x76 x77 x78 x79 x80 x81 x82 x83 x84 x85 x86 x87 x88 x89 x90 x91 x92 x93 x94 x95 x96 x97 x98 x99 x100 x101 x102 x103 x104 x105 x106 x107 x108 x109 x110 x121 x122 w0 Q 0 := by
  intro b a w h hb hdep
  have e7 : a.eval (.tmp 7) = .pointer (some ⟨X, 0, none⟩) := h.fixed (7, .pointer (some ⟨X, 0, none⟩)) (by simp [rsFix])
  have hX := (h.bel.block X (Array.getElem?_eq_some_iff.1 C.box).1).trans C.box
  have k0 := cell_of_row _ _ 0 _ _ _ hX
  have k1 := cell_of_row _ _ 1 _ _ _ hX
  have k2 := cell_of_row _ _ 2 _ _ _ hX
  have k3 := cell_of_row _ _ 3 _ _ _ hX
  have hr : (execOp a.eval rso0).run Try.prog w = .ok (.value (.agg #[.string c.name, .slice A1 c.vars.length c1, .slice A2 c.blocks.length c2, .slice A3 c.ins.length c3])) w := by
    simp only [execOp, rso0, e7]
    go_simp
  refine wpOp_of (o := rso0) rfl rfl ?_
  unfold Oper.wp
  rw [hr]
  exact h.put 0 112 (.agg #[.string c.name, .slice A1 c.vars.length c1, .slice A2 c.blocks.length c2, .slice A3 c.ins.length c3]) (rsF_fine _ _ _ _ _ _ _ _ _ _ _ _ _) hb (Nat.le_refl _) h.bel rfl rfl (by decide) (below_ch (Below.refl _ _)) (by simp [rsD]) (by
    intro x hx e
    simp only [rsF, List.mem_cons, List.not_mem_nil, or_false] at hx
    rcases hx with rfl | rfl | rfl | rfl | rfl | rfl | rfl | rfl | rfl | rfl | rfl | rfl
    all_goals first
      | (simp at e; done)
      | exact ⟨rfl, rfl, fun _ hk => hk.elim⟩) (rsF_uniq _ _ _ _ _ _ _ _ _ _ _ _ _)
def rso1 : Oper := { dst := some 113, op := Go.Op.buildSlice 31 0 #[], type := 31, pos := "outright.go:128", after := #[], guard := none }
theorem rsstep1 (_ : rsCtx X c A1 A2 A3 c1 c2 c3 kp AK nK cK w0) : rsStep X c A1 A2 A3 c1 c2 c3 kp AK nK cK x0 x1 x2 x3 x4 x5 x6 x8 x9 x10 x11 x12 x13 x14 x15 x16 x18 x19 x20 x21 x22 x25 x26 x27 x28 x29 x30 x31 x32 x33 x34 x35 x36 x37 x38 x39 x40 x41 x42 x43 x44 x45 x46 x47 x48 x49 x50 x51 x52 x53 x54 x55 x56 x57 x58 x59 x60 x61 x62 x63 x64 x65 x66 x67 x68 x69 x70 x71 x72 x73 x74 x75 x76 x77 x78 x79 x80 x81 x82 x83 x84 x85 x86 x87 x88 x89 x90 x91 x92 x93 x94 x95 x96 x97 x98 x99 x100 x101 x102 x103 x104 x105 x106 x107 x108 x109 x110 x121 x122 w0 Q 1 := by
  intro b a w h hb hdep
  have hr : (execOp a.eval rso1).run Try.prog w = .ok (.value (.slice (some ⟨w.heap.size, 0, none⟩) 0 0)) (w.alloc (.cells #[] 2)) := by
    simp only [execOp, rso1]
    go_simp
  refine wpOp_of (o := rso1) rfl rfl ?_
  unfold Oper.wp
  rw [hr]
  have hB : Below w.heap.size w (w.alloc (.cells #[] 2)) := ((Below.refl _ _).alloc (Nat.le_refl _) _)
  have hn : Own 2 1 oneI64 (w.alloc (.cells #[] 2)) w0.heap.size (.slice (some ⟨w.heap.size, 0, none⟩) 0 0) [] := row_new0X w _ h.bel.size 2 1
  exact h.put 1 113 (_) (rsF_fine _ _ _ _ _ _ _ _ _ _ _ _ _) hb hB.size (h.bel.trans (hB.mono h.bel.size)) rfl rfl (by decide) (below_ch hB) (by simp [rsD]) (by
    intro x hx e
    simp only [rsF, List.mem_cons, List.not_mem_nil, or_false] at hx
    rcases hx with rfl | rfl | rfl | rfl | rfl | rfl | rfl | rfl | rfl | rfl | rfl | rfl
    all_goals first
      | (simp at e; done)
      | exact ⟨rfl, hn, fun g hg => .inl (by cases hg; exact Nat.le_refl _)⟩) (rsF_uniq _ _ _ _ _ _ _ _ _ _ _ _ _)
def rso2 : Oper := { dst := some 114, op := Go.Op.move (Go.Operand.tmp 17), type := 31, pos := "outright.go:128", after := #[], guard := none }
theorem rsstep2 (_ : rsCtx X c A1 A2 A3 c1 c2 c3 kp AK nK cK w0) : rsStep X c A1 A2 A3 c1 c2 c3 kp AK nK cK x0 x1 x2 x3 x4 x5 x6 x8 x9 x10 x11 x12 x13 x14 x15 x16 x18 x19 x20 x21 x22 x25 x26 x27 x28 x29 x30 x31 x32 x33 x34 x35 x36 x37 x38 x39 x40 x41 x42 x43 x44 x45 x46 x47 x48 x49 x50 x51 x52 x53 x54 x55 x56 x57 x58 x59 x60 x61 x62 x63 x64 x65 x66 x67 x68 x69 x70 x71 x72 x73 x74 x75 x76 x77 x78 x79 x80 x81 x82 x83 x84 x85 x86 x87 x88 x89 x90 x91 x92 x93 x94 x95 x96 x97 x98 x99 x100 x101 x102 x103 x104 x105 x106 x107 x108 x109 x110 x121 x122 w0 Q 2 := by
  intro b a w h hb hdep
  have e17 : a.eval (.tmp 17) = .slice AK nK cK := h.fixed (17, .slice AK nK cK) (by simp [rsFix])
  have hr : (execOp a.eval rso2).run Try.prog w = .ok (.value (.slice AK nK cK)) w := by
    simp only [execOp, rso2, e17]
    go_simp
  refine wpOp_of (o := rso2) rfl rfl ?_
  unfold Oper.wp
  rw [hr]
  exact h.put 2 114 (.slice AK nK cK) (rsF_fine _ _ _ _ _ _ _ _ _ _ _ _ _) hb (Nat.le_refl _) h.bel rfl rfl (by decide) (below_ch (Below.refl _ _)) (by simp [rsD]) (by
    intro x hx e
    simp only [rsF, List.mem_cons, List.not_mem_nil, or_false] at hx
    rcases hx with rfl | rfl | rfl | rfl | rfl | rfl | rfl | rfl | rfl | rfl | rfl | rfl
    all_goals first
      | (simp at e; done)
      | exact ⟨rfl, rfl, fun _ hk => hk.elim⟩) (rsF_uniq _ _ _ _ _ _ _ _ _ _ _ _ _)
def rso3 : Oper := { dst := some 115, op := Go.Op.call { callee := Go.Callee.builtin Go.Builtin.append, args := #[Go.Operand.tmp 113, Go.Operand.tmp 114], argTypes := #[31, 31] }, type := 31, pos := "outright.go:128", after := #[{ on := 1, ground := Go.Ground.data }, { on := 2, ground := Go.Ground.data }], guard := none }
theorem rsstep3 (C : rsCtx X c A1 A2 A3 c1 c2 c3 kp AK nK cK w0) : rsStep X c A1 A2 A3 c1 c2 c3 kp AK nK cK x0 x1 x2 x3 x4 x5 x6 x8 x9 x10 x11 x12 x13 x14 x15 x16 x18 x19 x20 x21 x22 x25 x26 x27 x28 x29 x30 x31 x32 x33 x34 x35 x36 x37 x38 x39 x40 x41 x42 x43 x44 x45 x46 x47 x48 x49 x50 x51 x52 x53 x54 x55 x56 x57 x58 x59 x60 x61 x62 x63 x64 x65 x66 x67 x68 x69 x70 x71 x72 x73 x74 x75 x76 x77 x78 x79 x80 x81 x82 x83 x84 x85 x86 x87 x88 x89 x90 x91 x92 x93 x94 x95 x96 x97 x98 x99 x100 x101 x102 x103 x104 x105 x106 x107 x108 x109 x110 x121 x122 w0 Q 3 := by
  intro b a w h hb hdep
  have d1 : b 1 = true := hdep rso3 rfl { on := 1, ground := .data } (by simp [rso3]) rfl
  have d2 : b 2 = true := hdep rso3 rfl { on := 2, ground := .data } (by simp [rso3]) rfl
  have o113 := h.got (i := 1) (d := 113) (cs := [3]) (s := rowX 2 1 oneI64 w0.heap.size ([])) (by simp [rsF]) d1 (by simp [hb])
  have e114 : a.eval (.tmp 114) = (.slice AK nK cK) := h.got (i := 2) (cs := []) (s := .val (.slice AK nK cK)) (by simp [rsF]) d2 (by simp)
  obtain ⟨i0, hi, hz0, hz1, hz2⟩ := i64_info
  have ho : Own 2 1 oneI64 w w0.heap.size (a.eval (.tmp 113)) ([]) := o113
  have hlv : XLive b (1, [3], 113, rowX 2 1 oneI64 w0.heap.size ([])) := ⟨d1, by simp [hb]⟩
  refine wpOp_of (o := rso3) rfl rfl (wp_append_rd (.tmp 113) (.tmp 114) 31 rfl w0.heap.size 2 i0 _ 1 _ Try.underlying31 hi hz0 hz1 hz2 rfl (by decide) (by decide) oneI64 oneI64_len oneI64_one _ ([]) rfl ho _ (kp) e114 (C.rk.below h.bel) (by have := C.m; simp; omega) h.bel.size ?_)
  intro v' w' hn hrow
  exact h.put 3 115 (v') (rsF_fine _ _ _ _ _ _ _ _ _ _ _ _ _) hb hrow.g.size (h.bel.grown hrow.g h.bel.size (fun g hg => (World.ownsRow.lt ho g hg).1)) rfl rfl (by decide) (fun g hg hn2 => hrow.g.block g hg (fun e => hn2 (1, [3], 113, rowX 2 1 oneI64 w0.heap.size ([])) (by simp [rsF]) (by simp) hlv e.symm)) (by simp [rsD, d1, d2]) (by
    intro x hx e
    simp only [rsF, List.mem_cons, List.not_mem_nil, or_false] at hx
    rcases hx with rfl | rfl | rfl | rfl | rfl | rfl | rfl | rfl | rfl | rfl | rfl | rfl
    all_goals first
      | (simp at e; done)
      | exact ⟨rfl, hn, fun g hg => (hrow.b g hg).elim (fun h1 => .inr ⟨(1, [3], 113, rowX 2 1 oneI64 w0.heap.size ([])), by simp [rsF], by simp, hlv, h1⟩) .inl⟩) (rsF_uniq _ _ _ _ _ _ _ _ _ _ _ _ _)
def rso4 : Oper := { dst := some 116, op := Go.Op.buildSlice 31 1 #[(0, Go.Operand.const (Go.Value.int Go.IntKind.i64 0))], type := 31, pos := "outright.go:128", after := #[], guard := none }
theorem rsstep4 (_ : rsCtx X c A1 A2 A3 c1 c2 c3 kp AK nK cK w0) : rsStep X c A1 A2 A3 c1 c2 c3 kp AK nK cK x0 x1 x2 x3 x4 x5 x6 x8 x9 x10 x11 x12 x13 x14 x15 x16 x18 x19 x20 x21 x22 x25 x26 x27 x28 x29 x30 x31 x32 x33 x34 x35 x36 x37 x38 x39 x40 x41 x42 x43 x44 x45 x46 x47 x48 x49 x50 x51 x52 x53 x54 x55 x56 x57 x58 x59 x60 x61 x62 x63 x64 x65 x66 x67 x68 x69 x70 x71 x72 x73 x74 x75 x76 x77 x78 x79 x80 x81 x82 x83 x84 x85 x86 x87 x88 x89 x90 x91 x92 x93 x94 x95 x96 x97 x98 x99 x100 x101 x102 x103 x104 x105 x106 x107 x108 x109 x110 x121 x122 w0 Q 4 := by
  intro b a w h hb hdep
  have hr : (execOp a.eval rso4).run Try.prog w = .ok (.value (.slice (some ⟨w.heap.size, 0, none⟩) (([0] : List Int)).length (([0] : List Int)).length)) (w.alloc (.cells #[.int .i64 0] 2)) := by
    simp only [execOp, rso4]
    go_simp
    try rfl
  refine wpOp_of (o := rso4) rfl rfl ?_
  unfold Oper.wp
  rw [hr]
  have hB : Below w.heap.size w (w.alloc (.cells #[.int .i64 0] 2)) := ((Below.refl _ _).alloc (Nat.le_refl _) _)
  have hn : Own 2 1 oneI64 (w.alloc (.cells #[.int .i64 0] 2)) w0.heap.size (.slice (some ⟨w.heap.size, 0, none⟩) (([0] : List Int)).length (([0] : List Int)).length) (([0] : List Int)) := own_newX oneI64_len (heap_alloc_new w _) h.bel.size (by decide)
  exact h.put 4 116 (_) (rsF_fine _ _ _ _ _ _ _ _ _ _ _ _ _) hb hB.size (h.bel.trans (hB.mono h.bel.size)) rfl rfl (by decide) (below_ch hB) (by simp [rsD]) (by
    intro x hx e
    simp only [rsF, List.mem_cons, List.not_mem_nil, or_false] at hx
    rcases hx with rfl | rfl | rfl | rfl | rfl | rfl | rfl | rfl | rfl | rfl | rfl | rfl
    all_goals first
      | (simp at e; done)
      | exact ⟨rfl, hn, fun g hg => .inl (by cases hg; exact Nat.le_refl _)⟩) (rsF_uniq _ _ _ _ _ _ _ _ _ _ _ _ _)
def rso5 : Oper := { dst := some 117, op := Go.Op.call { callee := Go.Callee.builtin Go.Builtin.append, args := #[Go.Operand.tmp 115, Go.Operand.tmp 116], argTypes := #[31, 31] }, type := 31, pos := "outright.go:128", after := #[{ on := 3, ground := Go.Ground.data }, { on := 4, ground := Go.Ground.data }, { on := 3, ground := Go.Ground.chain }], guard := none }
theorem rsstep5 (C : rsCtx X c A1 A2 A3 c1 c2 c3 kp AK nK cK w0) : rsStep X c A1 A2 A3 c1 c2 c3 kp AK nK cK x0 x1 x2 x3 x4 x5 x6 x8 x9 x10 x11 x12 x13 x14 x15 x16 x18 x19 x20 x21 x22 x25 x26 x27 x28 x29 x30 x31 x32 x33 x34 x35 x36 x37 x38 x39 x40 x41 x42 x43 x44 x45 x46 x47 x48 x49 x50 x51 x52 x53 x54 x55 x56 x57 x58 x59 x60 x61 x62 x63 x64 x65 x66 x67 x68 x69 x70 x71 x72 x73 x74 x75 x76 x77 x78 x79 x80 x81 x82 x83 x84 x85 x86 x87 x88 x89 x90 x91 x92 x93 x94 x95 x96 x97 x98 x99 x100 x101 x102 x103 x104 x105 x106 x107 x108 x109 x110 x121 x122 w0 Q 5 := by
  intro b a w h hb hdep
  have d3 : b 3 = true := hdep rso5 rfl { on := 3, ground := .data } (by simp [rso5]) rfl
  have d4 : b 4 = true := hdep rso5 rfl { on := 4, ground := .data } (by simp [rso5]) rfl
  have o115 := h.got (i := 3) (d := 115) (cs := [5]) (s := rowX 2 1 oneI64 w0.heap.size (kp)) (by simp [rsF]) d3 (by simp [hb])
  have o116 := h.got (i := 4) (d := 116) (cs := []) (s := rowX 2 1 oneI64 w0.heap.size ([0])) (by simp [rsF]) d4 (by simp)
  obtain ⟨i0, hi, hz0, hz1, hz2⟩ := i64_info
  have ho : Own 2 1 oneI64 w w0.heap.size (a.eval (.tmp 115)) (kp) := o115
  have hlv : XLive b (3, [5], 115, rowX 2 1 oneI64 w0.heap.size (kp)) := ⟨d3, by simp [hb]⟩
  refine wpOp_of (o := rso5) rfl rfl (wp_append_rd (.tmp 115) (.tmp 116) 31 rfl w0.heap.size 2 i0 _ 1 _ Try.underlying31 hi hz0 hz1 hz2 rfl (by decide) (by decide) oneI64 oneI64_len oneI64_one _ (kp) rfl ho _ ([0]) rfl ((o116 : Own 2 1 oneI64 w w0.heap.size (a.eval (.tmp 116)) ([0])).rd oneI64_len) (by have := C.m; simp; omega) h.bel.size ?_)
  intro v' w' hn hrow
  exact h.put 5 117 (v') (rsF_fine _ _ _ _ _ _ _ _ _ _ _ _ _) hb hrow.g.size (h.bel.grown hrow.g h.bel.size (fun g hg => (World.ownsRow.lt ho g hg).1)) rfl rfl (by decide) (fun g hg hn2 => hrow.g.block g hg (fun e => hn2 (3, [5], 115, rowX 2 1 oneI64 w0.heap.size (kp)) (by simp [rsF]) (by simp) hlv e.symm)) (by simp [rsD, d3, d4]) (by
    intro x hx e
    simp only [rsF, List.mem_cons, List.not_mem_nil, or_false] at hx
    rcases hx with rfl | rfl | rfl | rfl | rfl | rfl | rfl | rfl | rfl | rfl | rfl | rfl
    all_goals first
      | (simp at e; done)
      | exact ⟨rfl, hn, fun g hg => (hrow.b g hg).elim (fun h1 => .inr ⟨(3, [5], 115, rowX 2 1 oneI64 w0.heap.size (kp)), by simp [rsF], by simp, hlv, h1⟩) .inl⟩) (rsF_uniq _ _ _ _ _ _ _ _ _ _ _ _ _)
def rso6 : Oper := { dst := some 118, op := Go.Op.call { callee := Go.Callee.value (Go.Operand.func 27), args := #[Go.Operand.tmp 112, Go.Operand.tmp 117], argTypes := #[26, 31] }, type := 50, pos := "outright.go:128", after := #[{ on := 0, ground := Go.Ground.data }, { on := 5, ground := Go.Ground.data }, { on := 5, ground := Go.Ground.chain }], guard := none }
theorem rsstep6 (C : rsCtx X c A1 A2 A3 c1 c2 c3 kp AK nK cK w0) : rsStep X c A1 A2 A3 c1 c2 c3 kp AK nK cK x0 x1 x2 x3 x4 x5 x6 x8 x9 x10 x11 x12 x13 x14 x15 x16 x18 x19 x20 x21 x22 x25 x26 x27 x28 x29 x30 x31 x32 x33 x34 x35 x36 x37 x38 x39 x40 x41 x42 x43 x44 x45 x46 x47 x48 x49 x50 x51 x52 x53 x54 x55 x56 x57 x58 x59 x60 x61 x62 x63 x64 x65 x66 x67 x68 x69 x70 x71 x72 x73 x74 x75 x76 x77 x78 x79 x80 x81 x82 x83 x84 x85 x86 x87 x88 x89 x90 x91 x92 x93 x94 x95 x96 x97 x98 x99 x100 x101 x102 x103 x104 x105 x106 x107 x108 x109 x110 x121 x122 w0 Q 6 := by
  intro b a w h hb hdep
  have d0 : b 0 = true := hdep rso6 rfl { on := 0, ground := .data } (by simp [rso6]) rfl
  have d5 : b 5 = true := hdep rso6 rfl { on := 5, ground := .data } (by simp [rso6]) rfl
  have e112 : a.eval (.tmp 112) = (.agg #[.string c.name, .slice A1 c.vars.length c1, .slice A2 c.blocks.length c2, .slice A3 c.ins.length c3]) := h.got (i := 0) (cs := []) (s := .val (.agg #[.string c.name, .slice A1 c.vars.length c1, .slice A2 c.blocks.length c2, .slice A3 c.ins.length c3])) (by simp [rsF]) d0 (by simp)
  have o117 := h.got (i := 5) (d := 117) (cs := []) (s := rowX 2 1 oneI64 w0.heap.size (kp ++ [0])) (by simp [rsF]) d5 (by simp)
  have o117' : Own 2 1 oneI64 w w0.heap.size (a.eval (.tmp 117)) (kp ++ [0]) := o117
  obtain ⟨A5, n5, q5, e117⟩ := o117'.slice
  rw [e117] at o117'
  have e112' : a.tmps[112]?.getD undef = .agg #[.string c.name, .slice A1 c.vars.length c1, .slice A2 c.blocks.length c2, .slice A3 c.ins.length c3] := by rw [← Array.getD_eq_getD_getElem?]; exact e112
  have e117' : a.tmps[117]?.getD undef = .slice A5 n5 q5 := by rw [← Array.getD_eq_getD_getElem?]; exact e117
  have hcon := srest_any c C.hw C.hn (kp ++ [0]) _ _ _ _ w (C.rd.below h.bel) (o117'.rd oneI64_len)
  rw [C.res] at hcon
  have hr : (execOp a.eval rso6).run Try.prog w = .ok (.enter 27 #[.agg #[.string c.name, .slice A1 c.vars.length c1, .slice A2 c.blocks.length c2, .slice A3 c.ins.length c3], .slice A5 n5 q5]) w := by
    simp only [execOp, rso6]
    go_simp
  refine wpOp_of (o := rso6) rfl rfl ?_
  unfold Oper.wp
  rw [hr, Oper.upon_enter]
  refine (hcon).mono ?_
  rintro e w' ⟨V, B, rfl, ho6, hb6⟩
  obtain ⟨A6, n6, q6, rfl⟩ := ho6.v.slice
  obtain ⟨B6, m6, r6, rfl⟩ := ho6.b.slice
  exact h.put 6 118 (_) (rsF_fine _ _ _ _ _ _ _ _ _ _ _ _ _) hb hb6.size (h.bel.trans (hb6.mono h.bel.size)) rfl rfl (by decide) (below_ch hb6) (by simp [rsD, d0, d5]) (by
    intro x hx e
    simp only [rsF, List.mem_cons, List.not_mem_nil, or_false] at hx
    rcases hx with rfl | rfl | rfl | rfl | rfl | rfl | rfl | rfl | rfl | rfl | rfl | rfl
    all_goals first
      | (simp at e; done)
      | exact ⟨rfl, ⟨_, _, _, _, _, _, rfl⟩, fun _ hk => hk.elim⟩) (rsF_uniq _ _ _ _ _ _ _ _ _ _ _ _ _)
def rso7 : Oper := { dst := some 111, op := Go.Op.move (Go.Operand.tmp 118), type := 50, pos := "outright.go:128", after := #[{ on := 6, ground := Go.Ground.data }], guard := none }
theorem rsstep7 (_ : rsCtx X c A1 A2 A3 c1 c2 c3 kp AK nK cK w0) : rsStep X c A1 A2 A3 c1 c2 c3 kp AK nK cK x0 x1 x2 x3 x4 x5 x6 x8 x9 x10 x11 x12 x13 x14 x15 x16 x18 x19 x20 x21 x22 x25 x26 x27 x28 x29 x30 x31 x32 x33 x34 x35 x36 x37 x38 x39 x40 x41 x42 x43 x44 x45 x46 x47 x48 x49 x50 x51 x52 x53 x54 x55 x56 x57 x58 x59 x60 x61 x62 x63 x64 x65 x66 x67 x68 x69 x70 x71 x72 x73 x74 x75 x76 x77 x78 x79 x80 x81 x82 x83 x84 x85 x86 x87 x88 x89 x90 x91 x92 x93 x94 x95 x96 x97 x98 x99 x100 x101 x102 x103 x104 x105 x106 x107 x108 x109 x110 x121 x122 w0 Q 7 := by
  intro b a w h hb hdep
  have d6 : b 6 = true := hdep rso7 rfl { on := 6, ground := .data } (by simp [rso7]) rfl
  have o118 := h.got (i := 6) (d := 118) (cs := []) (s := pureX (fun v => ∃ (A : Option Addr) (n q : Nat) (A' : Option Addr) (n' q' : Nat), v = .tuple #[.agg #[.slice A n q, .slice A' n' q'], .int .i64 161])) (by simp [rsF]) d6 (by simp)
  obtain ⟨A6, n6, q6, B6, m6, r6, e118⟩ := o118
  have hr : (execOp a.eval rso7).run Try.prog w = .ok (.value (.tuple #[.agg #[.slice A6 n6 q6, .slice B6 m6 r6], .int .i64 161])) w := by
    simp only [execOp, rso7, e118]
    go_simp
  refine wpOp_of (o := rso7) rfl rfl ?_
  unfold Oper.wp
  rw [hr]
  exact h.put 7 111 (.tuple #[.agg #[.slice A6 n6 q6, .slice B6 m6 r6], .int .i64 161]) (rsF_fine _ _ _ _ _ _ _ _ _ _ _ _ _) hb (Nat.le_refl _) h.bel rfl rfl (by decide) (below_ch (Below.refl _ _)) (by simp [rsD, d6]) (by
    intro x hx e
    simp only [rsF, List.mem_cons, List.not_mem_nil, or_false] at hx
    rcases hx with rfl | rfl | rfl | rfl | rfl | rfl | rfl | rfl | rfl | rfl | rfl | rfl
    all_goals first
      | (simp at e; done)
      | exact ⟨rfl, ⟨_, _, _, _, _, _, rfl⟩, fun _ hk => hk.elim⟩) (rsF_uniq _ _ _ _ _ _ _ _ _ _ _ _ _)
def rso8 : Oper := { dst := some 119, op := Go.Op.extract (Go.Operand.tmp 111) 0, type := 34, pos := "outright.go:128", after := #[{ on := 7, ground := Go.Ground.data }], guard := none }
theorem rsstep8 (_ : rsCtx X c A1 A2 A3 c1 c2 c3 kp AK nK cK w0) : rsStep X c A1 A2 A3 c1 c2 c3 kp AK nK cK x0 x1 x2 x3 x4 x5 x6 x8 x9 x10 x11 x12 x13 x14 x15 x16 x18 x19 x20 x21 x22 x25 x26 x27 x28 x29 x30 x31 x32 x33 x34 x35 x36 x37 x38 x39 x40 x41 x42 x43 x44 x45 x46 x47 x48 x49 x50 x51 x52 x53 x54 x55 x56 x57 x58 x59 x60 x61 x62 x63 x64 x65 x66 x67 x68 x69 x70 x71 x72 x73 x74 x75 x76 x77 x78 x79 x80 x81 x82 x83 x84 x85 x86 x87 x88 x89 x90 x91 x92 x93 x94 x95 x96 x97 x98 x99 x100 x101 x102 x103 x104 x105 x106 x107 x108 x109 x110 x121 x122 w0 Q 8 := by
  intro b a w h hb hdep
  have d7 : b 7 = true := hdep rso8 rfl { on := 7, ground := .data } (by simp [rso8]) rfl
  have o111 := h.got (i := 7) (d := 111) (cs := []) (s := pureX (fun v => ∃ (A : Option Addr) (n q : Nat) (A' : Option Addr) (n' q' : Nat), v = .tuple #[.agg #[.slice A n q, .slice A' n' q'], .int .i64 161])) (by simp [rsF]) d7 (by simp)
  obtain ⟨A6, n6, q6, B6, m6, r6, e111⟩ := o111
  have hr : (execOp a.eval rso8).run Try.prog w = .ok (.value (.agg #[.slice A6 n6 q6, .slice B6 m6 r6])) w := by
    simp only [execOp, rso8, e111]
    go_simp
  refine wpOp_of (o := rso8) rfl rfl ?_
  unfold Oper.wp
  rw [hr]
  exact h.put 8 119 (.agg #[.slice A6 n6 q6, .slice B6 m6 r6]) (rsF_fine _ _ _ _ _ _ _ _ _ _ _ _ _) hb (Nat.le_refl _) h.bel rfl rfl (by decide) (below_ch (Below.refl _ _)) (by simp [rsD, d7]) (by
    intro x hx e
    simp only [rsF, List.mem_cons, List.not_mem_nil, or_false] at hx
    rcases hx with rfl | rfl | rfl | rfl | rfl | rfl | rfl | rfl | rfl | rfl | rfl | rfl
    all_goals first
      | (simp at e; done)
      | exact ⟨rfl, ⟨_, _, _, _, _, _, rfl⟩, fun _ hk => hk.elim⟩) (rsF_uniq _ _ _ _ _ _ _ _ _ _ _ _ _)
def rso9 : Oper := { dst := some 120, op := Go.Op.extract (Go.Operand.tmp 111) 1, type := 35, pos := "outright.go:128", after := #[{ on := 7, ground := Go.Ground.data }, { on := 11, ground := Go.Ground.gcOnly Go.Departure.lateStores }], guard := none }
theorem rsstep9 (_ : rsCtx X c A1 A2 A3 c1 c2 c3 kp AK nK cK w0) : rsStep X c A1 A2 A3 c1 c2 c3 kp AK nK cK x0 x1 x2 x3 x4 x5 x6 x8 x9 x10 x11 x12 x13 x14 x15 x16 x18 x19 x20 x21 x22 x25 x26 x27 x28 x29 x30 x31 x32 x33 x34 x35 x36 x37 x38 x39 x40 x41 x42 x43 x44 x45 x46 x47 x48 x49 x50 x51 x52 x53 x54 x55 x56 x57 x58 x59 x60 x61 x62 x63 x64 x65 x66 x67 x68 x69 x70 x71 x72 x73 x74 x75 x76 x77 x78 x79 x80 x81 x82 x83 x84 x85 x86 x87 x88 x89 x90 x91 x92 x93 x94 x95 x96 x97 x98 x99 x100 x101 x102 x103 x104 x105 x106 x107 x108 x109 x110 x121 x122 w0 Q 9 := by
  intro b a w h hb hdep
  have d7 : b 7 = true := hdep rso9 rfl { on := 7, ground := .data } (by simp [rso9]) rfl
  have o111 := h.got (i := 7) (d := 111) (cs := []) (s := pureX (fun v => ∃ (A : Option Addr) (n q : Nat) (A' : Option Addr) (n' q' : Nat), v = .tuple #[.agg #[.slice A n q, .slice A' n' q'], .int .i64 161])) (by simp [rsF]) d7 (by simp)
  obtain ⟨A6, n6, q6, B6, m6, r6, e111⟩ := o111
  have hr : (execOp a.eval rso9).run Try.prog w = .ok (.value (.int .i64 161)) w := by
    simp only [execOp, rso9, e111]
    go_simp
  refine wpOp_of (o := rso9) rfl rfl ?_
  unfold Oper.wp
  rw [hr]
  exact h.put 9 120 (.int .i64 161) (rsF_fine _ _ _ _ _ _ _ _ _ _ _ _ _) hb (Nat.le_refl _) h.bel rfl rfl (by decide) (below_ch (Below.refl _ _)) (by simp [rsD, d7]) (by
    intro x hx e
    simp only [rsF, List.mem_cons, List.not_mem_nil, or_false] at hx
    rcases hx with rfl | rfl | rfl | rfl | rfl | rfl | rfl | rfl | rfl | rfl | rfl | rfl
    all_goals first
      | (simp at e; done)
      | exact ⟨rfl, rfl, fun _ hk => hk.elim⟩) (rsF_uniq _ _ _ _ _ _ _ _ _ _ _ _ _)
def rso10 : Oper := { dst := some 23, op := Go.Op.alloc 34, type := 0, pos := "outright.go:128", after := #[], guard := none }
theorem rsstep10 (_ : rsCtx X c A1 A2 A3 c1 c2 c3 kp AK nK cK w0) : rsStep X c A1 A2 A3 c1 c2 c3 kp AK nK cK x0 x1 x2 x3 x4 x5 x6 x8 x9 x10 x11 x12 x13 x14 x15 x16 x18 x19 x20 x21 x22 x25 x26 x27 x28 x29 x30 x31 x32 x33 x34 x35 x36 x37 x38 x39 x40 x41 x42 x43 x44 x45 x46 x47 x48 x49 x50 x51 x52 x53 x54 x55 x56 x57 x58 x59 x60 x61 x62 x63 x64 x65 x66 x67 x68 x69 x70 x71 x72 x73 x74 x75 x76 x77 x78 x79 x80 x81 x82 x83 x84 x85 x86 x87 x88 x89 x90 x91 x92 x93 x94 x95 x96 x97 x98 x99 x100 x101 x102 x103 x104 x105 x106 x107 x108 x109 x110 x121 x122 w0 Q 10 := by
  intro b a w h hb hdep
  have hr : (execOp a.eval rso10).run Try.prog w = .ok (.value (.pointer (some ⟨w.heap.size, 0, none⟩))) (w.alloc (.cells #[.slice none 0 0, .slice none 0 0] 34)) := by
    simp only [execOp, rso10]
    go_simp
  refine wpOp_of (o := rso10) rfl rfl ?_
  unfold Oper.wp
  rw [hr]
  have hB : Below w.heap.size w (w.alloc (.cells #[.slice none 0 0, .slice none 0 0] 34)) := ((Below.refl _ _).alloc (Nat.le_refl _) _)
  exact h.put 10 23 (_) (rsF_fine _ _ _ _ _ _ _ _ _ _ _ _ _) hb hB.size (h.bel.trans (hB.mono h.bel.size)) rfl rfl (by decide) (below_ch hB) (by simp [rsD]) (by
    intro x hx e
    simp only [rsF, List.mem_cons, List.not_mem_nil, or_false] at hx
    rcases hx with rfl | rfl | rfl | rfl | rfl | rfl | rfl | rfl | rfl | rfl | rfl | rfl
    all_goals first
      | (simp at e; done)
      | exact ⟨rfl, ⟨_, rfl, h.bel.size, heap_alloc_new w _⟩, fun g hg => .inl (by cases hg; exact Nat.le_refl _)⟩) (rsF_uniq _ _ _ _ _ _ _ _ _ _ _ _ _)
def rso11 : Oper := { dst := none, op := Go.Op.store 34 (Go.Operand.tmp 23) (Go.Operand.tmp 119), type := 0, pos := "outright.go:128", after := #[{ on := 10, ground := Go.Ground.data }, { on := 8, ground := Go.Ground.data }, { on := 6, ground := Go.Ground.chain }, { on := 0, ground := Go.Ground.phase }, { on := 1, ground := Go.Ground.phase }, { on := 2, ground := Go.Ground.phase }, { on := 3, ground := Go.Ground.phase }, { on := 4, ground := Go.Ground.phase }, { on := 5, ground := Go.Ground.phase }, { on := 6, ground := Go.Ground.phase }, { on := 7, ground := Go.Ground.phase }, { on := 8, ground := Go.Ground.phase }, { on := 9, ground := Go.Ground.textOnly Go.Departure.lateStores }, { on := 10, ground := Go.Ground.phase }], guard := none }
theorem rsstep11 (_ : rsCtx X c A1 A2 A3 c1 c2 c3 kp AK nK cK w0) : rsStep X c A1 A2 A3 c1 c2 c3 kp AK nK cK x0 x1 x2 x3 x4 x5 x6 x8 x9 x10 x11 x12 x13 x14 x15 x16 x18 x19 x20 x21 x22 x25 x26 x27 x28 x29 x30 x31 x32 x33 x34 x35 x36 x37 x38 x39 x40 x41 x42 x43 x44 x45 x46 x47 x48 x49 x50 x51 x52 x53 x54 x55 x56 x57 x58 x59 x60 x61 x62 x63 x64 x65 x66 x67 x68 x69 x70 x71 x72 x73 x74 x75 x76 x77 x78 x79 x80 x81 x82 x83 x84 x85 x86 x87 x88 x89 x90 x91 x92 x93 x94 x95 x96 x97 x98 x99 x100 x101 x102 x103 x104 x105 x106 x107 x108 x109 x110 x121 x122 w0 Q 11 := by
  intro b a w h hb hdep
  have d10 : b 10 = true := hdep rso11 rfl { on := 10, ground := .data } (by simp [rso11]) rfl
  have d8 : b 8 = true := hdep rso11 rfl { on := 8, ground := .data } (by simp [rso11]) rfl
  have d6 : b 6 = true := hdep rso11 rfl { on := 6, ground := .chain } (by simp [rso11]) rfl
  have o23 := h.got (i := 10) (d := 23) (cs := [11]) (s := boxX w0.heap.size 34 #[.slice none 0 0, .slice none 0 0]) (by simp [rsF]) d10 (by simp [hb])
  have o119 := h.got (i := 8) (d := 119) (cs := []) (s := pureX (fun v => ∃ (A : Option Addr) (n q : Nat) (A' : Option Addr) (n' q' : Nat), v = .agg #[.slice A n q, .slice A' n' q'])) (by simp [rsF]) d8 (by simp)
  obtain ⟨g, e23, hg, hrow⟩ := o23
  obtain ⟨A8, n8, q8, B8, m8, r8, e119⟩ := o119
  have hlv : XLive b (10, [11], 23, boxX w0.heap.size 34 #[.slice none 0 0, .slice none 0 0]) := ⟨d10, by simp [hb]⟩
  have q0 : w.cell? ⟨g, 0, none⟩ = some (.slice none 0 0) := cell_of_row _ _ 0 _ _ _ hrow
  have q1 : w.cell? ⟨g, 1, none⟩ = some (.slice none 0 0) := cell_of_row _ _ 1 _ _ _ hrow
  have f0 := frozen_of_row w g 0 _ _ hrow
  have f1 := frozen_of_row w g 1 _ _ hrow
  have hg2 := grown_trans (grown_set w g 0 (.slice A8 n8 q8)) (grown_set (w.setCell ⟨g, 0, none⟩ (.slice A8 n8 q8)) g 1 (.slice B8 m8 r8))
  have hbel2 := (h.bel.setCell (p := ⟨g, 0, none⟩) hg (.slice A8 n8 q8)).setCell (p := ⟨g, 1, none⟩) hg (.slice B8 m8 r8)
  have hr : (execOp a.eval rso11).run Try.prog w = .ok .skip ((w.setCell ⟨g, 0, none⟩ (.slice A8 n8 q8)).setCell ⟨g, 1, none⟩ (.slice B8 m8 r8)) := by
    simp only [execOp, rso11, e23, e119]
    go_simp
  refine wpOp_of (o := rso11) rfl rfl ?_
  unfold Oper.wp
  rw [hr]
  exact h.mark 11 (rsF_fine _ _ _ _ _ _ _ _ _ _ _ _ _) hg2.size hbel2 (fun k hk hn2 => hg2.block k hk (fun e => hn2 (10, [11], 23, boxX w0.heap.size 34 #[.slice none 0 0, .slice none 0 0]) (by simp [rsF]) (by simp) hlv (by cases e; exact e23))) (by simp [rsD, d6, d8, d10]) (by
    intro x hx e
    simp only [rsF, List.mem_cons, List.not_mem_nil, or_false] at hx
    rcases hx with rfl | rfl | rfl | rfl | rfl | rfl | rfl | rfl | rfl | rfl | rfl | rfl
    all_goals first
      | (simp at e; done)
      | exact ⟨rfl, fun _ hk => hk.elim⟩) (rsF_uniq _ _ _ _ _ _ _ _ _ _ _ _ _)
def rso12 : Oper := { dst := some 24, op := Go.Op.assign (Go.Operand.tmp 120), type := 35, pos := "outright.go:128", after := #[{ on := 9, ground := Go.Ground.data }, { on := 11, ground := Go.Ground.chain }, { on := 0, ground := Go.Ground.phase }, { on := 1, ground := Go.Ground.phase }, { on := 2, ground := Go.Ground.phase }, { on := 3, ground := Go.Ground.phase }, { on := 4, ground := Go.Ground.phase }, { on := 5, ground := Go.Ground.phase }, { on := 6, ground := Go.Ground.phase }, { on := 7, ground := Go.Ground.phase }, { on := 8, ground := Go.Ground.phase }, { on := 9, ground := Go.Ground.phase }, { on := 10, ground := Go.Ground.phase }, { on := 11, ground := Go.Ground.phase }], guard := none }
theorem rsstep12 (_ : rsCtx X c A1 A2 A3 c1 c2 c3 kp AK nK cK w0) : rsStep X c A1 A2 A3 c1 c2 c3 kp AK nK cK x0 x1 x2 x3 x4 x5 x6 x8 x9 x10 x11 x12 x13 x14 x15 x16 x18 x19 x20 x21 x22 x25 x26 x27 x28 x29 x30 x31 x32 x33 x34 x35 x36 x37 x38 x39 x40 x41 x42 x43 x44 x45 x46 x47 x48 x49 x50 x51 x52 x53 x54 x55 x56 x57 x58 x59 x60 x61 x62 x63 x64 x65 x66 x67 x68 x69 x70 x71 x72 x73 x74 x75 x76 x77 x78 x79 x80 x81 x82 x83 x84 x85 x86 x87 x88 x89 x90 x91 x92 x93 x94 x95 x96 x97 x98 x99 x100 x101 x102 x103 x104 x105 x106 x107 x108 x109 x110 x121 x122 w0 Q 12 := by
  intro b a w h hb hdep
  have d9 : b 9 = true := hdep rso12 rfl { on := 9, ground := .data } (by simp [rso12]) rfl
  have d11 : b 11 = true := hdep rso12 rfl { on := 11, ground := .chain } (by simp [rso12]) rfl
  have e120 : a.eval (.tmp 120) = (.int .i64 161) := h.got (i := 9) (cs := []) (s := .val (.int .i64 161)) (by simp [rsF]) d9 (by simp)
  have hr : (execOp a.eval rso12).run Try.prog w = .ok (.value (.int .i64 161)) w := by
    simp only [execOp, rso12, e120]
    go_simp
  refine wpOp_of (o := rso12) rfl rfl ?_
  unfold Oper.wp
  rw [hr]
  exact h.put 12 24 (.int .i64 161) (rsF_fine _ _ _ _ _ _ _ _ _ _ _ _ _) hb (Nat.le_refl _) h.bel rfl rfl (by decide) (below_ch (Below.refl _ _)) (by simp [rsD, d9, d11]) (by
    intro x hx e
    simp only [rsF, List.mem_cons, List.not_mem_nil, or_false] at hx
    rcases hx with rfl | rfl | rfl | rfl | rfl | rfl | rfl | rfl | rfl | rfl | rfl | rfl
    all_goals first
      | (simp at e; done)
      | exact ⟨rfl, rfl, fun _ hk => hk.elim⟩) (rsF_uniq _ _ _ _ _ _ _ _ _ _ _ _ _)
theorem rs_hac : ∀ i o, rsOps[i]? = some o → ∀ e ∈ o.after, Region.binds .any e = true → e.on < i := by
  have h : ((List.range rsOps.size).all fun i => match rsOps[i]? with | some o => o.after.all fun e => !(Region.binds .any e) || decide (e.on < i) | none => true) = true := by decide +kernel
  intro i o ho e he hb
  have hi : i < rsOps.size := (Array.getElem?_eq_some_iff.1 ho).1
  have h1 := List.all_eq_true.1 h i (List.mem_range.2 hi)
  rw [ho] at h1
  have h2 := Array.all_eq_true_iff_forall_mem.1 h1 e he
  rw [hb] at h2
  exact of_decide_eq_true h2
set_option maxHeartbeats 2000000 in
set_option maxRecDepth 100000 in
theorem rs_region (C : rsCtx X c A1 A2 A3 c1 c2 c3 kp AK nK cK w0) (y23 y24 y111 y112 y113 y114 y115 y116 y117 y118 y119 y120 : Value) (cont : ∀ (u23 u111 u112 u113 u114 u115 u116 u117 u118 u119 u120 : Value) (w1 : World), Below w0.heap.size w0 w1 → Q .normal ⟨#[x0, x1, x2, x3, x4, x5, x6, .pointer (some ⟨X, 0, none⟩), x8, x9, x10, x11, x12, x13, x14, x15, x16, .slice AK nK cK, x18, x19, x20, x21, x22, u23, .int .i64 161, x25, x26, x27, x28, x29, x30, x31, x32, x33, x34, x35, x36, x37, x38, x39, x40, x41, x42, x43, x44, x45, x46, x47, x48, x49, x50, x51, x52, x53, x54, x55, x56, x57, x58, x59, x60, x61, x62, x63, x64, x65, x66, x67, x68, x69, x70, x71, x72, x73, x74, x75, x76, x77, x78, x79, x80, x81, x82, x83, x84, x85, x86, x87, x88, x89, x90, x91, x92, x93, x94, x95, x96, x97, x98, x99, x100, x101, x102, x103, x104, x105, x106, x107, x108, x109, x110, u111, u112, u113, u114, u115, u116, u117, u118, u119, u120, x121, x122], []⟩ w1) :
    (Code.region 17 rsOps true).wp Try.prog Q ⟨#[x0, x1, x2, x3, x4, x5, x6, .pointer (some ⟨X, 0, none⟩), x8, x9, x10, x11, x12, x13, x14, x15, x16, .slice AK nK cK, x18, x19, x20, x21, x22, y23, y24, x25, x26, x27, x28, x29, x30, x31, x32, x33, x34, x35, x36, x37, x38, x39, x40, x41, x42, x43, x44, x45, x46, x47, x48, x49, x50, x51, x52, x53, x54, x55, x56, x57, x58, x59, x60, x61, x62, x63, x64, x65, x66, x67, x68, x69, x70, x71, x72, x73, x74, x75, x76, x77, x78, x79, x80, x81, x82, x83, x84, x85, x86, x87, x88, x89, x90, x91, x92, x93, x94, x95, x96, x97, x98, x99, x100, x101, x102, x103, x104, x105, x106, x107, x108, x109, x110, y111, y112, y113, y114, y115, y116, y117, y118, y119, y120, x121, x122], []⟩ w0 := by
  refine wp_region_inv (ops := rsOps) (by kernel_rfl) rs_hac (rsSt X c A1 A2 A3 c1 c2 c3 kp AK nK cK x0 x1 x2 x3 x4 x5 x6 x8 x9 x10 x11 x12 x13 x14 x15 x16 x18 x19 x20 x21 x22 x25 x26 x27 x28 x29 x30 x31 x32 x33 x34 x35 x36 x37 x38 x39 x40 x41 x42 x43 x44 x45 x46 x47 x48 x49 x50 x51 x52 x53 x54 x55 x56 x57 x58 x59 x60 x61 x62 x63 x64 x65 x66 x67 x68 x69 x70 x71 x72 x73 x74 x75 x76 x77 x78 x79 x80 x81 x82 x83 x84 x85 x86 x87 x88 x89 x90 x91 x92 x93 x94 x95 x96 x97 x98 x99 x100 x101 x102 x103 x104 x105 x106 x107 x108 x109 x110 x121 x122 w0) ?_ ?_ ?_
  · exact { defers := rfl, size := rfl, fixed := (fun x hx => by
        simp only [rsFix, List.mem_cons, List.not_mem_nil, or_false] at hx
        rcases hx with rfl | rfl | rfl | rfl | rfl | rfl | rfl | rfl | rfl | rfl | rfl | rfl | rfl | rfl | rfl | rfl | rfl | rfl | rfl | rfl | rfl | rfl | rfl | rfl | rfl | rfl | rfl | rfl | rfl | rfl | rfl | rfl | rfl | rfl | rfl | rfl | rfl | rfl | rfl | rfl | rfl | rfl | rfl | rfl | rfl | rfl | rfl | rfl | rfl | rfl | rfl | rfl | rfl | rfl | rfl | rfl | rfl | rfl | rfl | rfl | rfl | rfl | rfl | rfl | rfl | rfl | rfl | rfl | rfl | rfl | rfl | rfl | rfl | rfl | rfl | rfl | rfl | rfl | rfl | rfl | rfl | rfl | rfl | rfl | rfl | rfl | rfl | rfl | rfl | rfl | rfl | rfl | rfl | rfl | rfl | rfl | rfl | rfl | rfl | rfl | rfl | rfl | rfl | rfl | rfl | rfl | rfl | rfl | rfl | rfl | rfl
        all_goals rfl), bel := (Below.refl _ _).drew, f := (fun _ _ h => by cases h.1), dis := (fun _ _ _ _ h => by cases h.1), dep := (fun _ _ h => by cases h) }
  · intro i hi
    change i < 13 at hi
    match i, hi with
    | 0, _ => exact rsstep0 C
    | 1, _ => exact rsstep1 C
    | 2, _ => exact rsstep2 C
    | 3, _ => exact rsstep3 C
    | 4, _ => exact rsstep4 C
    | 5, _ => exact rsstep5 C
    | 6, _ => exact rsstep6 C
    | 7, _ => exact rsstep7 C
    | 8, _ => exact rsstep8 C
    | 9, _ => exact rsstep9 C
    | 10, _ => exact rsstep10 C
    | 11, _ => exact rsstep11 C
    | 12, _ => exact rsstep12 C
    | n + 13, hi => exact absurd hi (by omega)
  · intro b a w hall h
    have e24 : a.eval (.tmp 24) = .int .i64 161 := h.got (i := 12) (cs := []) (s := .val (.int .i64 161)) (by simp [rsF]) (hall 12 (by decide)) (by simp)
    have e0 : a.eval (.tmp 0) = x0 := h.fixed (0, x0) (by simp [rsFix])
    have e1 : a.eval (.tmp 1) = x1 := h.fixed (1, x1) (by simp [rsFix])
    have e2 : a.eval (.tmp 2) = x2 := h.fixed (2, x2) (by simp [rsFix])
    have e3 : a.eval (.tmp 3) = x3 := h.fixed (3, x3) (by simp [rsFix])
    have e4 : a.eval (.tmp 4) = x4 := h.fixed (4, x4) (by simp [rsFix])
    have e5 : a.eval (.tmp 5) = x5 := h.fixed (5, x5) (by simp [rsFix])
    have e6 : a.eval (.tmp 6) = x6 := h.fixed (6, x6) (by simp [rsFix])
    have e7 : a.eval (.tmp 7) = .pointer (some ⟨X, 0, none⟩) := h.fixed (7, .pointer (some ⟨X, 0, none⟩)) (by simp [rsFix])
    have e8 : a.eval (.tmp 8) = x8 := h.fixed (8, x8) (by simp [rsFix])
    have e9 : a.eval (.tmp 9) = x9 := h.fixed (9, x9) (by simp [rsFix])
    have e10 : a.eval (.tmp 10) = x10 := h.fixed (10, x10) (by simp [rsFix])
    have e11 : a.eval (.tmp 11) = x11 := h.fixed (11, x11) (by simp [rsFix])
    have e12 : a.eval (.tmp 12) = x12 := h.fixed (12, x12) (by simp [rsFix])
    have e13 : a.eval (.tmp 13) = x13 := h.fixed (13, x13) (by simp [rsFix])
    have e14 : a.eval (.tmp 14) = x14 := h.fixed (14, x14) (by simp [rsFix])
    have e15 : a.eval (.tmp 15) = x15 := h.fixed (15, x15) (by simp [rsFix])
    have e16 : a.eval (.tmp 16) = x16 := h.fixed (16, x16) (by simp [rsFix])
    have e17 : a.eval (.tmp 17) = .slice AK nK cK := h.fixed (17, .slice AK nK cK) (by simp [rsFix])
    have e18 : a.eval (.tmp 18) = x18 := h.fixed (18, x18) (by simp [rsFix])
    have e19 : a.eval (.tmp 19) = x19 := h.fixed (19, x19) (by simp [rsFix])
    have e20 : a.eval (.tmp 20) = x20 := h.fixed (20, x20) (by simp [rsFix])
    have e21 : a.eval (.tmp 21) = x21 := h.fixed (21, x21) (by simp [rsFix])
    have e22 : a.eval (.tmp 22) = x22 := h.fixed (22, x22) (by simp [rsFix])
    have e25 : a.eval (.tmp 25) = x25 := h.fixed (25, x25) (by simp [rsFix])
    have e26 : a.eval (.tmp 26) = x26 := h.fixed (26, x26) (by simp [rsFix])
    have e27 : a.eval (.tmp 27) = x27 := h.fixed (27, x27) (by simp [rsFix])
    have e28 : a.eval (.tmp 28) = x28 := h.fixed (28, x28) (by simp [rsFix])
    have e29 : a.eval (.tmp 29) = x29 := h.fixed (29, x29) (by simp [rsFix])
    have e30 : a.eval (.tmp 30) = x30 := h.fixed (30, x30) (by simp [rsFix])
    have e31 : a.eval (.tmp 31) = x31 := h.fixed (31, x31) (by simp [rsFix])
    have e32 : a.eval (.tmp 32) = x32 := h.fixed (32, x32) (by simp [rsFix])
    have e33 : a.eval (.tmp 33) = x33 := h.fixed (33, x33) (by simp [rsFix])
    have e34 : a.eval (.tmp 34) = x34 := h.fixed (34, x34) (by simp [rsFix])
    have e35 : a.eval (.tmp 35) = x35 := h.fixed (35, x35) (by simp [rsFix])
    have e36 : a.eval (.tmp 36) = x36 := h.fixed (36, x36) (by simp [rsFix])
    have e37 : a.eval (.tmp 37) = x37 := h.fixed (37, x37) (by simp [rsFix])
    have e38 : a.eval (.tmp 38) = x38 := h.fixed (38, x38) (by simp [rsFix])
    have e39 : a.eval (.tmp 39) = x39 := h.fixed (39, x39) (by simp [rsFix])
    have e40 : a.eval (.tmp 40) = x40 := h.fixed (40, x40) (by simp [rsFix])
    have e41 : a.eval (.tmp 41) = x41 := h.fixed (41, x41) (by simp [rsFix])
    have e42 : a.eval (.tmp 42) = x42 := h.fixed (42, x42) (by simp [rsFix])
    have e43 : a.eval (.tmp 43) = x43 := h.fixed (43, x43) (by simp [rsFix])
    have e44 : a.eval (.tmp 44) = x44 := h.fixed (44, x44) (by simp [rsFix])
    have e45 : a.eval (.tmp 45) = x45 := h.fixed (45, x45) (by simp [rsFix])
    have e46 : a.eval (.tmp 46) = x46 := h.fixed (46, x46) (by simp [rsFix])
    have e47 : a.eval (.tmp 47) = x47 := h.fixed (47, x47) (by simp [rsFix])
    have e48 : a.eval (.tmp 48) = x48 := h.fixed (48, x48) (by simp [rsFix])
    have e49 : a.eval (.tmp 49) = x49 := h.fixed (49, x49) (by simp [rsFix])
    have e50 : a.eval (.tmp 50) = x50 := h.fixed (50, x50) (by simp [rsFix])
    have e51 : a.eval (.tmp 51) = x51 := h.fixed (51, x51) (by simp [rsFix])
    have e52 : a.eval (.tmp 52) = x52 := h.fixed (52, x52) (by simp [rsFix])
    have e53 : a.eval (.tmp 53) = x53 := h.fixed (53, x53) (by simp [rsFix])
    have e54 : a.eval (.tmp 54) = x54 := h.fixed (54, x54) (by simp [rsFix])
    have e55 : a.eval (.tmp 55) = x55 := h.fixed (55, x55) (by simp [rsFix])
    have e56 : a.eval (.tmp 56) = x56 := h.fixed (56, x56) (by simp [rsFix])
    have e57 : a.eval (.tmp 57) = x57 := h.fixed (57, x57) (by simp [rsFix])
    have e58 : a.eval (.tmp 58) = x58 := h.fixed (58, x58) (by simp [rsFix])
    have e59 : a.eval (.tmp 59) = x59 := h.fixed (59, x59) (by simp [rsFix])
    have e60 : a.eval (.tmp 60) = x60 := h.fixed (60, x60) (by simp [rsFix])
    have e61 : a.eval (.tmp 61) = x61 := h.fixed (61, x61) (by simp [rsFix])
    have e62 : a.eval (.tmp 62) = x62 := h.fixed (62, x62) (by simp [rsFix])
    have e63 : a.eval (.tmp 63) = x63 := h.fixed (63, x63) (by simp [rsFix])
    have e64 : a.eval (.tmp 64) = x64 := h.fixed (64, x64) (by simp [rsFix])
    have e65 : a.eval (.tmp 65) = x65 := h.fixed (65, x65) (by simp [rsFix])
    have e66 : a.eval (.tmp 66) = x66 := h.fixed (66, x66) (by simp [rsFix])
    have e67 : a.eval (.tmp 67) = x67 := h.fixed (67, x67) (by simp [rsFix])
    have e68 : a.eval (.tmp 68) = x68 := h.fixed (68, x68) (by simp [rsFix])
    have e69 : a.eval (.tmp 69) = x69 := h.fixed (69, x69) (by simp [rsFix])
    have e70 : a.eval (.tmp 70) = x70 := h.fixed (70, x70) (by simp [rsFix])
    have e71 : a.eval (.tmp 71) = x71 := h.fixed (71, x71) (by simp [rsFix])
    have e72 : a.eval (.tmp 72) = x72 := h.fixed (72, x72) (by simp [rsFix])
    have e73 : a.eval (.tmp 73) = x73 := h.fixed (73, x73) (by simp [rsFix])
    have e74 : a.eval (.tmp 74) = x74 := h.fixed (74, x74) (by simp [rsFix])
    have e75 : a.eval (.tmp 75) = x75 := h.fixed (75, x75) (by simp [rsFix])
    have e76 : a.eval (.tmp 76) = x76 := h.fixed (76, x76) (by simp [rsFix])
    have e77 : a.eval (.tmp 77) = x77 := h.fixed (77, x77) (by simp [rsFix])
    have e78 : a.eval (.tmp 78) = x78 := h.fixed (78, x78) (by simp [rsFix])
    have e79 : a.eval (.tmp 79) = x79 := h.fixed (79, x79) (by simp [rsFix])
    have e80 : a.eval (.tmp 80) = x80 := h.fixed (80, x80) (by simp [rsFix])
    have e81 : a.eval (.tmp 81) = x81 := h.fixed (81, x81) (by simp [rsFix])
    have e82 : a.eval (.tmp 82) = x82 := h.fixed (82, x82) (by simp [rsFix])
    have e83 : a.eval (.tmp 83) = x83 := h.fixed (83, x83) (by simp [rsFix])
    have e84 : a.eval (.tmp 84) = x84 := h.fixed (84, x84) (by simp [rsFix])
    have e85 : a.eval (.tmp 85) = x85 := h.fixed (85, x85) (by simp [rsFix])
    have e86 : a.eval (.tmp 86) = x86 := h.fixed (86, x86) (by simp [rsFix])
    have e87 : a.eval (.tmp 87) = x87 := h.fixed (87, x87) (by simp [rsFix])
    have e88 : a.eval (.tmp 88) = x88 := h.fixed (88, x88) (by simp [rsFix])
    have e89 : a.eval (.tmp 89) = x89 := h.fixed (89, x89) (by simp [rsFix])
    have e90 : a.eval (.tmp 90) = x90 := h.fixed (90, x90) (by simp [rsFix])
    have e91 : a.eval (.tmp 91) = x91 := h.fixed (91, x91) (by simp [rsFix])
    have e92 : a.eval (.tmp 92) = x92 := h.fixed (92, x92) (by simp [rsFix])
    have e93 : a.eval (.tmp 93) = x93 := h.fixed (93, x93) (by simp [rsFix])
    have e94 : a.eval (.tmp 94) = x94 := h.fixed (94, x94) (by simp [rsFix])
    have e95 : a.eval (.tmp 95) = x95 := h.fixed (95, x95) (by simp [rsFix])
    have e96 : a.eval (.tmp 96) = x96 := h.fixed (96, x96) (by simp [rsFix])
    have e97 : a.eval (.tmp 97) = x97 := h.fixed (97, x97) (by simp [rsFix])
    have e98 : a.eval (.tmp 98) = x98 := h.fixed (98, x98) (by simp [rsFix])
    have e99 : a.eval (.tmp 99) = x99 := h.fixed (99, x99) (by simp [rsFix])
    have e100 : a.eval (.tmp 100) = x100 := h.fixed (100, x100) (by simp [rsFix])
    have e101 : a.eval (.tmp 101) = x101 := h.fixed (101, x101) (by simp [rsFix])
    have e102 : a.eval (.tmp 102) = x102 := h.fixed (102, x102) (by simp [rsFix])
    have e103 : a.eval (.tmp 103) = x103 := h.fixed (103, x103) (by simp [rsFix])
    have e104 : a.eval (.tmp 104) = x104 := h.fixed (104, x104) (by simp [rsFix])
    have e105 : a.eval (.tmp 105) = x105 := h.fixed (105, x105) (by simp [rsFix])
    have e106 : a.eval (.tmp 106) = x106 := h.fixed (106, x106) (by simp [rsFix])
    have e107 : a.eval (.tmp 107) = x107 := h.fixed (107, x107) (by simp [rsFix])
    have e108 : a.eval (.tmp 108) = x108 := h.fixed (108, x108) (by simp [rsFix])
    have e109 : a.eval (.tmp 109) = x109 := h.fixed (109, x109) (by simp [rsFix])
    have e110 : a.eval (.tmp 110) = x110 := h.fixed (110, x110) (by simp [rsFix])
    have e121 : a.eval (.tmp 121) = x121 := h.fixed (121, x121) (by simp [rsFix])
    have e122 : a.eval (.tmp 122) = x122 := h.fixed (122, x122) (by simp [rsFix])
    have h1 := arr_lits a.tmps 123 h.size
    have h2 : ((List.range 123).map fun i => a.tmps.getD i undef) = [a.eval (.tmp 0), a.eval (.tmp 1), a.eval (.tmp 2), a.eval (.tmp 3), a.eval (.tmp 4), a.eval (.tmp 5), a.eval (.tmp 6), a.eval (.tmp 7), a.eval (.tmp 8), a.eval (.tmp 9), a.eval (.tmp 10), a.eval (.tmp 11), a.eval (.tmp 12), a.eval (.tmp 13), a.eval (.tmp 14), a.eval (.tmp 15), a.eval (.tmp 16), a.eval (.tmp 17), a.eval (.tmp 18), a.eval (.tmp 19), a.eval (.tmp 20), a.eval (.tmp 21), a.eval (.tmp 22), a.eval (.tmp 23), a.eval (.tmp 24), a.eval (.tmp 25), a.eval (.tmp 26), a.eval (.tmp 27), a.eval (.tmp 28), a.eval (.tmp 29), a.eval (.tmp 30), a.eval (.tmp 31), a.eval (.tmp 32), a.eval (.tmp 33), a.eval (.tmp 34), a.eval (.tmp 35), a.eval (.tmp 36), a.eval (.tmp 37), a.eval (.tmp 38), a.eval (.tmp 39), a.eval (.tmp 40), a.eval (.tmp 41), a.eval (.tmp 42), a.eval (.tmp 43), a.eval (.tmp 44), a.eval (.tmp 45), a.eval (.tmp 46), a.eval (.tmp 47), a.eval (.tmp 48), a.eval (.tmp 49), a.eval (.tmp 50), a.eval (.tmp 51), a.eval (.tmp 52), a.eval (.tmp 53), a.eval (.tmp 54), a.eval (.tmp 55), a.eval (.tmp 56), a.eval (.tmp 57), a.eval (.tmp 58), a.eval (.tmp 59), a.eval (.tmp 60), a.eval (.tmp 61), a.eval (.tmp 62), a.eval (.tmp 63), a.eval (.tmp 64), a.eval (.tmp 65), a.eval (.tmp 66), a.eval (.tmp 67), a.eval (.tmp 68), a.eval (.tmp 69), a.eval (.tmp 70), a.eval (.tmp 71), a.eval (.tmp 72), a.eval (.tmp 73), a.eval (.tmp 74), a.eval (.tmp 75), a.eval (.tmp 76), a.eval (.tmp 77), a.eval (.tmp 78), a.eval (.tmp 79), a.eval (.tmp 80), a.eval (.tmp 81), a.eval (.tmp 82), a.eval (.tmp 83), a.eval (.tmp 84), a.eval (.tmp 85), a.eval (.tmp 86), a.eval (.tmp 87), a.eval (.tmp 88), a.eval (.tmp 89), a.eval (.tmp 90), a.eval (.tmp 91), a.eval (.tmp 92), a.eval (.tmp 93), a.eval (.tmp 94), a.eval (.tmp 95), a.eval (.tmp 96), a.eval (.tmp 97), a.eval (.tmp 98), a.eval (.tmp 99), a.eval (.tmp 100), a.eval (.tmp 101), a.eval (.tmp 102), a.eval (.tmp 103), a.eval (.tmp 104), a.eval (.tmp 105), a.eval (.tmp 106), a.eval (.tmp 107), a.eval (.tmp 108), a.eval (.tmp 109), a.eval (.tmp 110), a.eval (.tmp 111), a.eval (.tmp 112), a.eval (.tmp 113), a.eval (.tmp 114), a.eval (.tmp 115), a.eval (.tmp 116), a.eval (.tmp 117), a.eval (.tmp 118), a.eval (.tmp 119), a.eval (.tmp 120), a.eval (.tmp 121), a.eval (.tmp 122)] := rfl
    rw [h2, e24, e0, e1, e2, e3, e4, e5, e6, e7, e8, e9, e10, e11, e12, e13, e14, e15, e16, e17, e18, e19, e20, e21, e22, e25, e26, e27, e28, e29, e30, e31, e32, e33, e34, e35, e36, e37, e38, e39, e40, e41, e42, e43, e44, e45, e46, e47, e48, e49, e50, e51, e52, e53, e54, e55, e56, e57, e58, e59, e60, e61, e62, e63, e64, e65, e66, e67, e68, e69, e70, e71, e72, e73, e74, e75, e76, e77, e78, e79, e80, e81, e82, e83, e84, e85, e86, e87, e88, e89, e90, e91, e92, e93, e94, e95, e96, e97, e98, e99, e100, e101, e102, e103, e104, e105, e106, e107, e108, e109, e110, e121, e122] at h1
    have hd := h.defers
    have hbel := h.bel
    clear h2 h
    obtain ⟨tm, df⟩ := a
    simp only at h1 hd
    subst hd
    generalize Act.eval ⟨tm, []⟩ (.tmp 23) = u23, Act.eval ⟨tm, []⟩ (.tmp 111) = u111, Act.eval ⟨tm, []⟩ (.tmp 112) = u112, Act.eval ⟨tm, []⟩ (.tmp 113) = u113, Act.eval ⟨tm, []⟩ (.tmp 114) = u114, Act.eval ⟨tm, []⟩ (.tmp 115) = u115, Act.eval ⟨tm, []⟩ (.tmp 116) = u116, Act.eval ⟨tm, []⟩ (.tmp 117) = u117, Act.eval ⟨tm, []⟩ (.tmp 118) = u118, Act.eval ⟨tm, []⟩ (.tmp 119) = u119, Act.eval ⟨tm, []⟩ (.tmp 120) = u120 at h1
    subst h1
    exact cont _ _ _ _ _ _ _ _ _ _ _ w hbel
end
end Go.Proofs.Ytiogpainajokkaa
