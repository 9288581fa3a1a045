/- The region of code.fits that builds its map of function values. Printed by gen_fits.py. -/
import Derived.Test.YtiogpainajokkaaFitsA
import Derived.IntWalk
namespace Go.Proofs.Ytiogpainajokkaa
open Go.RowKit
def fOps : Array Oper := #[{ dst := some 10, op := Go.Op.makeMap 227 none, type := 227, pos := "code.go:107", after := #[], guard := none },
  { dst := some 11, op := Go.Op.load 226 (Go.Operand.tmp 5), type := 226, pos := "code.go:107", after := #[], guard := none },
  { dst := some 12, op := Go.Op.call { callee := Go.Callee.value (Go.Operand.tmp 11), args := #[Go.Operand.const (Go.Value.int Go.IntKind.i64 1)], argTypes := #[3] }, type := 132, pos := "code.go:108", after := #[{ on := 1, ground := Go.Ground.data }], guard := none },
  { dst := none, op := Go.Op.insert 227 (Go.Operand.tmp 10) (Go.Operand.const (Go.Value.int Go.IntKind.u8 45)) (Go.Operand.tmp 12), type := 0, pos := "code.go:107", after := #[{ on := 0, ground := Go.Ground.data }, { on := 2, ground := Go.Ground.data }], guard := none },
  { dst := none, op := Go.Op.insert 227 (Go.Operand.tmp 10) (Go.Operand.const (Go.Value.int Go.IntKind.u8 116)) (Go.Operand.func 112), type := 0, pos := "code.go:107", after := #[{ on := 0, ground := Go.Ground.data }], guard := none },
  { dst := some 13, op := Go.Op.load 226 (Go.Operand.tmp 5), type := 226, pos := "code.go:107", after := #[], guard := none },
  { dst := some 14, op := Go.Op.fieldAddr 26 (Go.Operand.tmp 2) 1, type := 0, pos := "code.go:107", after := #[], guard := none },
  { dst := some 15, op := Go.Op.load 22 (Go.Operand.tmp 14), type := 22, pos := "code.go:107", after := #[{ on := 6, ground := Go.Ground.data }], guard := none },
  { dst := some 16, op := Go.Op.call { callee := Go.Callee.builtin Go.Builtin.len, args := #[Go.Operand.tmp 15], argTypes := #[22] }, type := 3, pos := "code.go:107", after := #[{ on := 7, ground := Go.Ground.data }], guard := none },
  { dst := some 17, op := Go.Op.call { callee := Go.Callee.value (Go.Operand.tmp 13), args := #[Go.Operand.tmp 16], argTypes := #[3] }, type := 132, pos := "code.go:108", after := #[{ on := 5, ground := Go.Ground.data }, { on := 8, ground := Go.Ground.data }, { on := 2, ground := Go.Ground.chain }], guard := none },
  { dst := none, op := Go.Op.insert 227 (Go.Operand.tmp 10) (Go.Operand.const (Go.Value.int Go.IntKind.u8 118)) (Go.Operand.tmp 17), type := 0, pos := "code.go:107", after := #[{ on := 0, ground := Go.Ground.data }, { on := 9, ground := Go.Ground.data }], guard := none },
  { dst := some 18, op := Go.Op.load 226 (Go.Operand.tmp 5), type := 226, pos := "code.go:107", after := #[], guard := none },
  { dst := some 19, op := Go.Op.fieldAddr 26 (Go.Operand.tmp 2) 3, type := 0, pos := "code.go:107", after := #[], guard := none },
  { dst := some 20, op := Go.Op.load 24 (Go.Operand.tmp 19), type := 24, pos := "code.go:107", after := #[{ on := 12, ground := Go.Ground.data }], guard := none },
  { dst := some 21, op := Go.Op.call { callee := Go.Callee.builtin Go.Builtin.len, args := #[Go.Operand.tmp 20], argTypes := #[24] }, type := 3, pos := "code.go:107", after := #[{ on := 13, ground := Go.Ground.data }], guard := none },
  { dst := some 22, op := Go.Op.binOp Go.BinOp.add 3 (Go.Operand.tmp 21) (Go.Operand.const (Go.Value.int Go.IntKind.i64 1)) 3, type := 3, pos := "code.go:107", after := #[{ on := 14, ground := Go.Ground.data }], guard := none },
  { dst := some 23, op := Go.Op.call { callee := Go.Callee.value (Go.Operand.tmp 18), args := #[Go.Operand.tmp 22], argTypes := #[3] }, type := 132, pos := "code.go:108", after := #[{ on := 11, ground := Go.Ground.data }, { on := 15, ground := Go.Ground.data }, { on := 9, ground := Go.Ground.chain }], guard := none },
  { dst := none, op := Go.Op.insert 227 (Go.Operand.tmp 10) (Go.Operand.const (Go.Value.int Go.IntKind.u8 106)) (Go.Operand.tmp 23), type := 0, pos := "code.go:107", after := #[{ on := 0, ground := Go.Ground.data }, { on := 16, ground := Go.Ground.data }], guard := none },
  { dst := some 24, op := Go.Op.load 226 (Go.Operand.tmp 5), type := 226, pos := "code.go:107", after := #[], guard := none },
  { dst := some 25, op := Go.Op.fieldAddr 26 (Go.Operand.tmp 2) 2, type := 0, pos := "code.go:107", after := #[], guard := none },
  { dst := some 26, op := Go.Op.load 23 (Go.Operand.tmp 25), type := 23, pos := "code.go:107", after := #[{ on := 19, ground := Go.Ground.data }], guard := none },
  { dst := some 27, op := Go.Op.call { callee := Go.Callee.builtin Go.Builtin.len, args := #[Go.Operand.tmp 26], argTypes := #[23] }, type := 3, pos := "code.go:107", after := #[{ on := 20, ground := Go.Ground.data }], guard := none },
  { dst := some 28, op := Go.Op.call { callee := Go.Callee.value (Go.Operand.tmp 24), args := #[Go.Operand.tmp 27], argTypes := #[3] }, type := 132, pos := "code.go:108", after := #[{ on := 18, ground := Go.Ground.data }, { on := 21, ground := Go.Ground.data }, { on := 16, ground := Go.Ground.chain }], guard := none },
  { dst := none, op := Go.Op.insert 227 (Go.Operand.tmp 10) (Go.Operand.const (Go.Value.int Go.IntKind.u8 98)) (Go.Operand.tmp 28), type := 0, pos := "code.go:107", after := #[{ on := 0, ground := Go.Ground.data }, { on := 22, ground := Go.Ground.data }], guard := none },
  { dst := none, op := Go.Op.insert 227 (Go.Operand.tmp 10) (Go.Operand.const (Go.Value.int Go.IntKind.u8 119)) (Go.Operand.func 147), type := 0, pos := "code.go:107", after := #[{ on := 0, ground := Go.Ground.data }], guard := none },
  { dst := some 29, op := Go.Op.makeFunc (Go.Fn.func 148) #[] #[Go.Operand.tmp 5, Go.Operand.tmp 2], type := 132, pos := "code.go:107", after := #[], guard := none },
  { dst := none, op := Go.Op.insert 227 (Go.Operand.tmp 10) (Go.Operand.const (Go.Value.int Go.IntKind.u8 115)) (Go.Operand.tmp 29), type := 0, pos := "code.go:107", after := #[{ on := 0, ground := Go.Ground.data }, { on := 25, ground := Go.Ground.data }], guard := none },
  { dst := some 30, op := Go.Op.makeFunc (Go.Fn.func 149) #[] #[Go.Operand.tmp 3], type := 132, pos := "code.go:107", after := #[], guard := none },
  { dst := none, op := Go.Op.insert 227 (Go.Operand.tmp 10) (Go.Operand.const (Go.Value.int Go.IntKind.u8 110)) (Go.Operand.tmp 30), type := 0, pos := "code.go:107", after := #[{ on := 0, ground := Go.Ground.data }, { on := 27, ground := Go.Ground.data }], guard := none },
  { dst := some 31, op := Go.Op.makeFunc (Go.Fn.func 150) #[] #[Go.Operand.tmp 2, Go.Operand.tmp 3, Go.Operand.tmp 5], type := 132, pos := "code.go:107", after := #[], guard := none },
  { dst := none, op := Go.Op.insert 227 (Go.Operand.tmp 10) (Go.Operand.const (Go.Value.int Go.IntKind.u8 112)) (Go.Operand.tmp 31), type := 0, pos := "code.go:107", after := #[{ on := 0, ground := Go.Ground.data }, { on := 29, ground := Go.Ground.data }], guard := none },
  { dst := some 32, op := Go.Op.move (Go.Operand.tmp 10), type := 227, pos := "code.go:107", after := #[{ on := 0, ground := Go.Ground.data }, { on := 1, ground := Go.Ground.data }, { on := 2, ground := Go.Ground.data }, { on := 3, ground := Go.Ground.data }, { on := 4, ground := Go.Ground.data }, { on := 5, ground := Go.Ground.data }, { on := 6, ground := Go.Ground.data }, { on := 7, ground := Go.Ground.data }, { on := 8, ground := Go.Ground.data }, { on := 9, ground := Go.Ground.data }, { on := 10, ground := Go.Ground.data }, { on := 11, ground := Go.Ground.data }, { on := 12, ground := Go.Ground.data }, { on := 13, ground := Go.Ground.data }, { on := 14, ground := Go.Ground.data }, { on := 15, ground := Go.Ground.data }, { on := 16, ground := Go.Ground.data }, { on := 17, ground := Go.Ground.data }, { on := 18, ground := Go.Ground.data }, { on := 19, ground := Go.Ground.data }, { on := 20, ground := Go.Ground.data }, { on := 21, ground := Go.Ground.data }, { on := 22, ground := Go.Ground.data }, { on := 23, ground := Go.Ground.data }, { on := 24, ground := Go.Ground.data }, { on := 25, ground := Go.Ground.data }, { on := 26, ground := Go.Ground.data }, { on := 27, ground := Go.Ground.data }, { on := 28, ground := Go.Ground.data }, { on := 29, ground := Go.Ground.data }, { on := 30, ground := Go.Ground.data }], guard := none },
  { dst := some 6, op := Go.Op.assign (Go.Operand.tmp 32), type := 227, pos := "code.go:107", after := #[{ on := 31, ground := Go.Ground.data }, { on := 22, ground := Go.Ground.chain }, { on := 0, ground := Go.Ground.phase }, { on := 1, ground := Go.Ground.phase }, { on := 2, ground := Go.Ground.phase }, { on := 3, ground := Go.Ground.phase }, { on := 4, ground := Go.Ground.phase }, { on := 5, ground := Go.Ground.phase }, { on := 6, ground := Go.Ground.phase }, { on := 7, ground := Go.Ground.phase }, { on := 8, ground := Go.Ground.phase }, { on := 9, ground := Go.Ground.phase }, { on := 10, ground := Go.Ground.phase }, { on := 11, ground := Go.Ground.phase }, { on := 12, ground := Go.Ground.phase }, { on := 13, ground := Go.Ground.phase }, { on := 14, ground := Go.Ground.phase }, { on := 15, ground := Go.Ground.phase }, { on := 16, ground := Go.Ground.phase }, { on := 17, ground := Go.Ground.phase }, { on := 18, ground := Go.Ground.phase }, { on := 19, ground := Go.Ground.phase }, { on := 20, ground := Go.Ground.phase }, { on := 21, ground := Go.Ground.phase }, { on := 22, ground := Go.Ground.phase }, { on := 23, ground := Go.Ground.phase }, { on := 24, ground := Go.Ground.phase }, { on := 25, ground := Go.Ground.phase }, { on := 26, ground := Go.Ground.phase }, { on := 27, ground := Go.Ground.phase }, { on := 28, ground := Go.Ground.phase }, { on := 29, ground := Go.Ground.phase }, { on := 30, ground := Go.Ground.phase }, { on := 31, ground := Go.Ground.phase }], guard := none }]
def fF (bc bi bb : Nat) (A1 A2 A3 : Option Addr) (n1 n2 n3 c1 c2 c3 : Nat) : List (Nat × Nat × VSpec) := [(1, 11, .val (.func (.func 145) #[] #[])), (2, 12, .clo 146 1), (5, 13, .val (.func (.func 145) #[] #[])), (6, 14, .val (.pointer (some ⟨bc, 1, none⟩))), (7, 15, .val (.slice A1 n1 c1)), (8, 16, .val (.int .i64 (n1 : Int))), (9, 17, .clo 146 (n1 : Int)), (11, 18, .val (.func (.func 145) #[] #[])), (12, 19, .val (.pointer (some ⟨bc, 3, none⟩))), (13, 20, .val (.slice A3 n3 c3)), (14, 21, .val (.int .i64 (n3 : Int))), (15, 22, .val (.int .i64 ((n3 : Int) + 1))), (16, 23, .clo 146 ((n3 : Int) + 1)), (18, 24, .val (.func (.func 145) #[] #[])), (19, 25, .val (.pointer (some ⟨bc, 2, none⟩))), (20, 26, .val (.slice A2 n2 c2)), (21, 27, .val (.int .i64 (n2 : Int))), (22, 28, .clo 146 (n2 : Int)), (25, 29, .val (.func (.func 148) #[] #[.pointer (some ⟨bb, 0, none⟩), .pointer (some ⟨bc, 0, none⟩)])), (27, 30, .val (.func (.func 149) #[] #[.pointer (some ⟨bi, 0, none⟩)])), (29, 31, .val (.func (.func 150) #[] #[.pointer (some ⟨bc, 0, none⟩), .pointer (some ⟨bi, 0, none⟩), .pointer (some ⟨bb, 0, none⟩)]))]
def fG (bc bi bb : Nat) (_ _ _ : Option Addr) (n1 n2 n3 _ _ _ : Nat) : List (Nat × Int × VSpec) := [(3, 45, .clo 146 1), (4, 116, .val (.func (.func 112) #[] #[])), (10, 118, .clo 146 (n1 : Int)), (17, 106, .clo 146 ((n3 : Int) + 1)), (23, 98, .clo 146 (n2 : Int)), (24, 119, .val (.func (.func 147) #[] #[])), (26, 115, .val (.func (.func 148) #[] #[.pointer (some ⟨bb, 0, none⟩), .pointer (some ⟨bc, 0, none⟩)])), (28, 110, .val (.func (.func 149) #[] #[.pointer (some ⟨bi, 0, none⟩)])), (30, 112, .val (.func (.func 150) #[] #[.pointer (some ⟨bc, 0, none⟩), .pointer (some ⟨bi, 0, none⟩), .pointer (some ⟨bb, 0, none⟩)]))]
def fH : List (Nat × Nat) := [(31, 32), (32, 6)]
def fFix (x0 x1 : Value) (bc bi bb : Nat) : List (Nat × Value) := [(0, x0), (1, x1), (2, .pointer (some ⟨bc, 0, none⟩)), (3, .pointer (some ⟨bi, 0, none⟩)), (4, .bool false), (5, .pointer (some ⟨bb, 0, none⟩)), (7, undef), (8, undef), (9, undef), (33, undef), (34, undef), (35, undef), (36, undef), (37, undef), (38, undef), (39, undef), (40, undef), (41, undef), (42, undef), (43, undef), (44, undef), (45, undef), (46, undef), (47, undef), (48, undef), (49, undef), (50, undef), (51, undef), (52, undef), (53, undef), (54, undef), (55, undef), (56, undef), (57, undef), (58, undef)]
abbrev FSt (x0 x1 : Value) (bc bi bb : Nat) (A1 A2 A3 : Option Addr) (n1 n2 n3 c1 c2 c3 : Nat) (w0 : World) (b : Nat → Bool) (a : Act) (w : World) : Prop := LitSt (fF bc bi bb A1 A2 A3 n1 n2 n3 c1 c2 c3) (fG bc bi bb A1 A2 A3 n1 n2 n3 c1 c2 c3) fH 0 10 (fFix x0 x1 bc bi bb) w0.heap.size w0 59 b a w
structure FCtx (bc bi bb : Nat) (A1 A2 A3 : Option Addr) (n1 n2 n3 c1 c2 c3 : Nat) (w0 : World) : Prop where
  c1 : w0.cell? ⟨bc, 1, none⟩ = some (.slice A1 n1 c1)
  c2 : w0.cell? ⟨bc, 2, none⟩ = some (.slice A2 n2 c2)
  c3 : w0.cell? ⟨bc, 3, none⟩ = some (.slice A3 n3 c3)
  cb : w0.cell? ⟨bb, 0, none⟩ = some (.func (.func 145) #[] #[])
  m1 : (n1 : Int) ≤ 9223372036854775807
  m2 : (n2 : Int) ≤ 9223372036854775807
  m3 : (n3 : Int) < 9223372036854775807
def FStep (x0 x1 : Value) (bc bi bb : Nat) (A1 A2 A3 : Option Addr) (n1 n2 n3 c1 c2 c3 : Nat) (w0 : World) (Q : Exit → Act → World → Prop) (i : Nat) : Prop := ∀ b a w, FSt x0 x1 bc bi bb A1 A2 A3 n1 n2 n3 c1 c2 c3 w0 b a w → b i = false → (∀ o, fOps[i]? = some o → ∀ e ∈ o.after, Region.binds .any e = true → b e.on = true) → wpOp Try.prog fOps Q i (FSt x0 x1 bc bi bb A1 A2 A3 n1 n2 n3 c1 c2 c3 w0 (ub b i)) a w
section
variable {x0 x1 : Value} {bc bi bb : Nat} {A1 A2 A3 : Option Addr} {n1 n2 n3 c1 c2 c3 : Nat} {w0 : World} {Q : Exit → Act → World → Prop}
def fo0 : Oper := { dst := some 10, op := Go.Op.makeMap 227 none, type := 227, pos := "code.go:107", after := #[], guard := none }
theorem fstep0 (_ : FCtx bc bi bb A1 A2 A3 n1 n2 n3 c1 c2 c3 w0) : FStep x0 x1 bc bi bb A1 A2 A3 n1 n2 n3 c1 c2 c3 w0 Q 0 := by
  intro b a w h hb hdep
  have hr : (execOp a.eval fo0).run Try.prog w = .ok (.value (.map (some w.heap.size))) (w.alloc (.map #[] 0)) := by
    simp only [execOp, fo0, Option.map_none]
    have hmm := @run_makeMap Try.prog
    go_simp
  refine wpOp_of (o := fo0) rfl rfl ?_
  unfold Oper.wp
  rw [hr]
  exact h.made hb h.bel.size (by decide) (by simp [fF]) (by simp [fG]) (by simp [fH]) (by simp [fFix])
def fo1 : Oper := { dst := some 11, op := Go.Op.load 226 (Go.Operand.tmp 5), type := 226, pos := "code.go:107", after := #[], guard := none }
theorem fstep1 (C : FCtx bc bi bb A1 A2 A3 n1 n2 n3 c1 c2 c3 w0) : FStep x0 x1 bc bi bb A1 A2 A3 n1 n2 n3 c1 c2 c3 w0 Q 1 := by
  intro b a w h hb hdep
  have e5 : a.eval (.tmp 5) = .pointer (some ⟨bb, 0, none⟩) := h.fixed (5, .pointer (some ⟨bb, 0, none⟩)) (by simp [fFix])
  have k1 := cell_below h.bel _ _ C.c1
  have k2 := cell_below h.bel _ _ C.c2
  have k3 := cell_below h.bel _ _ C.c3
  have kb := cell_below h.bel _ _ C.cb
  have hr : (execOp a.eval fo1).run Try.prog w = .ok (.value (.func (.func 145) #[] #[])) w := by
    simp only [execOp, fo1, e5]
    go_simp
  refine wpOp_of (o := fo1) rfl rfl ?_
  unfold Oper.wp
  rw [hr]
  exact h.put 1 11 _ (Below.refl _ _) h.bel.size (by decide) (by simp [fF, IsV]) (by simp [fF]) (by simp [fG]) (by simp [fH]) (by decide) (by decide) (by simp [fFix])
def fo2 : Oper := { dst := some 12, op := Go.Op.call { callee := Go.Callee.value (Go.Operand.tmp 11), args := #[Go.Operand.const (Go.Value.int Go.IntKind.i64 1)], argTypes := #[3] }, type := 132, pos := "code.go:108", after := #[{ on := 1, ground := Go.Ground.data }], guard := none }
theorem fstep2 (C : FCtx bc bi bb A1 A2 A3 n1 n2 n3 c1 c2 c3 w0) : FStep x0 x1 bc bi bb A1 A2 A3 n1 n2 n3 c1 c2 c3 w0 Q 2 := by
  intro b a w h hb hdep
  have d1 : b 1 = true := hdep fo2 rfl { on := 1, ground := .data } (by simp [fo2]) rfl
  have e11 : a.eval (.tmp 11) = .func (.func 145) #[] #[] := h.f (1, 11, .val (.func (.func 145) #[] #[])) (by simp [fF]) d1
  have k1 := cell_below h.bel _ _ C.c1
  have k2 := cell_below h.bel _ _ C.c2
  have k3 := cell_below h.bel _ _ C.c3
  have kb := cell_below h.bel _ _ C.cb
  have hr : (execOp a.eval fo2).run Try.prog w = .ok (.enter 145 #[.int .i64 1]) w := by
    simp only [execOp, fo2, resolve, List.map_toArray, List.map_cons, List.map_nil, e11]
    go_simp
  refine wpOp_of (o := fo2) rfl rfl ?_
  unfold Oper.wp
  rw [hr]
  refine (below_mk _ _).mono ?_
  rintro e w' ⟨rfl, rfl⟩
  exact h.put 2 12 _ ((Below.refl _ _).alloc (Nat.le_refl _) _) h.bel.size (by decide) (by simp [fF, IsV]; exact ⟨_, rfl, cell_new _ _ _⟩) (by simp [fF]) (by simp [fG]) (by simp [fH]) (by decide) (by decide) (by simp [fFix])
def fo3 : Oper := { dst := none, op := Go.Op.insert 227 (Go.Operand.tmp 10) (Go.Operand.const (Go.Value.int Go.IntKind.u8 45)) (Go.Operand.tmp 12), type := 0, pos := "code.go:107", after := #[{ on := 0, ground := Go.Ground.data }, { on := 2, ground := Go.Ground.data }], guard := none }
theorem fstep3 (_ : FCtx bc bi bb A1 A2 A3 n1 n2 n3 c1 c2 c3 w0) : FStep x0 x1 bc bi bb A1 A2 A3 n1 n2 n3 c1 c2 c3 w0 Q 3 := by
  intro b a w h hb hdep
  have d0 : b 0 = true := hdep fo3 rfl { on := 0, ground := .data } (by simp [fo3]) rfl
  have d2 : b 2 = true := hdep fo3 rfl { on := 2, ground := .data } (by simp [fo3]) rfl
  obtain ⟨M, fn, hM, hMB, hfn, hall⟩ := h.g d0
  have hv : IsV w (.clo 146 1) (a.eval (.tmp 12)) := h.f (2, 12, .clo 146 1) (by simp [fF]) d2
  obtain ⟨w', hrun, h1, hg, hs⟩ := hfn.run_put (keyLaw_int Try.underlying5) Try.underlying227 45 (a.eval (.tmp 12))
  refine wpOp_of (o := fo3) rfl rfl ?_
  have hr : (execOp a.eval fo3).run Try.prog w = .ok .skip w' := by
    have hrun' : (Instr.mapUpdate 227 (.map (some M)) (.int .u8 45) (a.eval (.tmp 12))).run Try.prog w = .ok () w' := hrun
    have hx : execOp a.eval fo3 = (do Instr.mapUpdate 227 (a.eval (.tmp 10)) (.int .u8 45) (a.eval (.tmp 12)); pure .skip) := rfl
    rw [hx, hM, Sem.run_bind, hrun']
    rfl
  unfold Oper.wp
  rw [hr]
  exact h.ins 3 45 (a.eval (.tmp 12)) hM hMB hfn hall d0 h1 hg (by simp [fF]) (by simp only [fG, List.mem_cons, List.not_mem_nil, or_false]; rintro x (rfl | rfl | rfl | rfl | rfl | rfl | rfl | rfl | rfl) hx <;> first | (cases hx; done) | exact ⟨rfl, hv⟩) (by simp [fG]) (by simp [fH])
def fo4 : Oper := { dst := none, op := Go.Op.insert 227 (Go.Operand.tmp 10) (Go.Operand.const (Go.Value.int Go.IntKind.u8 116)) (Go.Operand.func 112), type := 0, pos := "code.go:107", after := #[{ on := 0, ground := Go.Ground.data }], guard := none }
theorem fstep4 (_ : FCtx bc bi bb A1 A2 A3 n1 n2 n3 c1 c2 c3 w0) : FStep x0 x1 bc bi bb A1 A2 A3 n1 n2 n3 c1 c2 c3 w0 Q 4 := by
  intro b a w h hb hdep
  have d0 : b 0 = true := hdep fo4 rfl { on := 0, ground := .data } (by simp [fo4]) rfl
  obtain ⟨M, fn, hM, hMB, hfn, hall⟩ := h.g d0
  have hv : IsV w (.val (.func (.func 112) #[] #[])) (.func (.func 112) #[] #[]) := rfl
  obtain ⟨w', hrun, h1, hg, hs⟩ := hfn.run_put (keyLaw_int Try.underlying5) Try.underlying227 116 (.func (.func 112) #[] #[])
  refine wpOp_of (o := fo4) rfl rfl ?_
  have hr : (execOp a.eval fo4).run Try.prog w = .ok .skip w' := by
    have hrun' : (Instr.mapUpdate 227 (.map (some M)) (.int .u8 116) (.func (.func 112) #[] #[])).run Try.prog w = .ok () w' := hrun
    have hx : execOp a.eval fo4 = (do Instr.mapUpdate 227 (a.eval (.tmp 10)) (.int .u8 116) (.func (.func 112) #[] #[]); pure .skip) := rfl
    rw [hx, hM, Sem.run_bind, hrun']
    rfl
  unfold Oper.wp
  rw [hr]
  exact h.ins 4 116 (.func (.func 112) #[] #[]) hM hMB hfn hall d0 h1 hg (by simp [fF]) (by simp only [fG, List.mem_cons, List.not_mem_nil, or_false]; rintro x (rfl | rfl | rfl | rfl | rfl | rfl | rfl | rfl | rfl) hx <;> first | (cases hx; done) | exact ⟨rfl, hv⟩) (by simp [fG]) (by simp [fH])
def fo5 : Oper := { dst := some 13, op := Go.Op.load 226 (Go.Operand.tmp 5), type := 226, pos := "code.go:107", after := #[], guard := none }
theorem fstep5 (C : FCtx bc bi bb A1 A2 A3 n1 n2 n3 c1 c2 c3 w0) : FStep x0 x1 bc bi bb A1 A2 A3 n1 n2 n3 c1 c2 c3 w0 Q 5 := by
  intro b a w h hb hdep
  have e5 : a.eval (.tmp 5) = .pointer (some ⟨bb, 0, none⟩) := h.fixed (5, .pointer (some ⟨bb, 0, none⟩)) (by simp [fFix])
  have k1 := cell_below h.bel _ _ C.c1
  have k2 := cell_below h.bel _ _ C.c2
  have k3 := cell_below h.bel _ _ C.c3
  have kb := cell_below h.bel _ _ C.cb
  have hr : (execOp a.eval fo5).run Try.prog w = .ok (.value (.func (.func 145) #[] #[])) w := by
    simp only [execOp, fo5, e5]
    go_simp
  refine wpOp_of (o := fo5) rfl rfl ?_
  unfold Oper.wp
  rw [hr]
  exact h.put 5 13 _ (Below.refl _ _) h.bel.size (by decide) (by simp [fF, IsV]) (by simp [fF]) (by simp [fG]) (by simp [fH]) (by decide) (by decide) (by simp [fFix])
def fo6 : Oper := { dst := some 14, op := Go.Op.fieldAddr 26 (Go.Operand.tmp 2) 1, type := 0, pos := "code.go:107", after := #[], guard := none }
theorem fstep6 (_ : FCtx bc bi bb A1 A2 A3 n1 n2 n3 c1 c2 c3 w0) : FStep x0 x1 bc bi bb A1 A2 A3 n1 n2 n3 c1 c2 c3 w0 Q 6 := by
  intro b a w h hb hdep
  have e2 : a.eval (.tmp 2) = .pointer (some ⟨bc, 0, none⟩) := h.fixed (2, .pointer (some ⟨bc, 0, none⟩)) (by simp [fFix])
  have hr : (execOp a.eval fo6).run Try.prog w = .ok (.value (.pointer (some ⟨bc, 1, none⟩))) w := by
    simp only [execOp, fo6, e2]
    go_simp
  refine wpOp_of (o := fo6) rfl rfl ?_
  unfold Oper.wp
  rw [hr]
  exact h.put 6 14 _ (Below.refl _ _) h.bel.size (by decide) (by simp [fF, IsV]) (by simp [fF]) (by simp [fG]) (by simp [fH]) (by decide) (by decide) (by simp [fFix])
def fo7 : Oper := { dst := some 15, op := Go.Op.load 22 (Go.Operand.tmp 14), type := 22, pos := "code.go:107", after := #[{ on := 6, ground := Go.Ground.data }], guard := none }
theorem fstep7 (C : FCtx bc bi bb A1 A2 A3 n1 n2 n3 c1 c2 c3 w0) : FStep x0 x1 bc bi bb A1 A2 A3 n1 n2 n3 c1 c2 c3 w0 Q 7 := by
  intro b a w h hb hdep
  have d6 : b 6 = true := hdep fo7 rfl { on := 6, ground := .data } (by simp [fo7]) rfl
  have e14 : a.eval (.tmp 14) = .pointer (some ⟨bc, 1, none⟩) := h.f (6, 14, .val (.pointer (some ⟨bc, 1, none⟩))) (by simp [fF]) d6
  have k1 := cell_below h.bel _ _ C.c1
  have k2 := cell_below h.bel _ _ C.c2
  have k3 := cell_below h.bel _ _ C.c3
  have kb := cell_below h.bel _ _ C.cb
  have hr : (execOp a.eval fo7).run Try.prog w = .ok (.value (.slice A1 n1 c1)) w := by
    simp only [execOp, fo7, e14]
    go_simp
  refine wpOp_of (o := fo7) rfl rfl ?_
  unfold Oper.wp
  rw [hr]
  exact h.put 7 15 _ (Below.refl _ _) h.bel.size (by decide) (by simp [fF, IsV]) (by simp [fF]) (by simp [fG]) (by simp [fH]) (by decide) (by decide) (by simp [fFix])
def fo8 : Oper := { dst := some 16, op := Go.Op.call { callee := Go.Callee.builtin Go.Builtin.len, args := #[Go.Operand.tmp 15], argTypes := #[22] }, type := 3, pos := "code.go:107", after := #[{ on := 7, ground := Go.Ground.data }], guard := none }
theorem fstep8 (_ : FCtx bc bi bb A1 A2 A3 n1 n2 n3 c1 c2 c3 w0) : FStep x0 x1 bc bi bb A1 A2 A3 n1 n2 n3 c1 c2 c3 w0 Q 8 := by
  intro b a w h hb hdep
  have d7 : b 7 = true := hdep fo8 rfl { on := 7, ground := .data } (by simp [fo8]) rfl
  have e15 : a.eval (.tmp 15) = .slice A1 n1 c1 := h.f (7, 15, .val (.slice A1 n1 c1)) (by simp [fF]) d7
  have hr : (execOp a.eval fo8).run Try.prog w = .ok (.value (.int .i64 (n1 : Int))) w := by
    simp only [execOp, fo8, resolve, List.map_toArray, List.map_cons, List.map_nil, e15]
    go_simp
  refine wpOp_of (o := fo8) rfl rfl ?_
  unfold Oper.wp
  rw [hr]
  exact h.put 8 16 _ (Below.refl _ _) h.bel.size (by decide) (by simp [fF, IsV]) (by simp [fF]) (by simp [fG]) (by simp [fH]) (by decide) (by decide) (by simp [fFix])
def fo9 : Oper := { dst := some 17, op := Go.Op.call { callee := Go.Callee.value (Go.Operand.tmp 13), args := #[Go.Operand.tmp 16], argTypes := #[3] }, type := 132, pos := "code.go:108", after := #[{ on := 5, ground := Go.Ground.data }, { on := 8, ground := Go.Ground.data }, { on := 2, ground := Go.Ground.chain }], guard := none }
theorem fstep9 (C : FCtx bc bi bb A1 A2 A3 n1 n2 n3 c1 c2 c3 w0) : FStep x0 x1 bc bi bb A1 A2 A3 n1 n2 n3 c1 c2 c3 w0 Q 9 := by
  intro b a w h hb hdep
  have d5 : b 5 = true := hdep fo9 rfl { on := 5, ground := .data } (by simp [fo9]) rfl
  have d8 : b 8 = true := hdep fo9 rfl { on := 8, ground := .data } (by simp [fo9]) rfl
  have d2 : b 2 = true := hdep fo9 rfl { on := 2, ground := .chain } (by simp [fo9]) rfl
  have e13 : a.eval (.tmp 13) = .func (.func 145) #[] #[] := h.f (5, 13, .val (.func (.func 145) #[] #[])) (by simp [fF]) d5
  have e16 : a.eval (.tmp 16) = .int .i64 (n1 : Int) := h.f (8, 16, .val (.int .i64 (n1 : Int))) (by simp [fF]) d8
  have k1 := cell_below h.bel _ _ C.c1
  have k2 := cell_below h.bel _ _ C.c2
  have k3 := cell_below h.bel _ _ C.c3
  have kb := cell_below h.bel _ _ C.cb
  have hr : (execOp a.eval fo9).run Try.prog w = .ok (.enter 145 #[.int .i64 (n1 : Int)]) w := by
    simp only [execOp, fo9, resolve, List.map_toArray, List.map_cons, List.map_nil, e13, e16]
    go_simp
  refine wpOp_of (o := fo9) rfl rfl ?_
  unfold Oper.wp
  rw [hr]
  refine (below_mk _ _).mono ?_
  rintro e w' ⟨rfl, rfl⟩
  exact h.put 9 17 _ ((Below.refl _ _).alloc (Nat.le_refl _) _) h.bel.size (by decide) (by simp [fF, IsV]; exact ⟨_, rfl, cell_new _ _ _⟩) (by simp [fF]) (by simp [fG]) (by simp [fH]) (by decide) (by decide) (by simp [fFix])
def fo10 : Oper := { dst := none, op := Go.Op.insert 227 (Go.Operand.tmp 10) (Go.Operand.const (Go.Value.int Go.IntKind.u8 118)) (Go.Operand.tmp 17), type := 0, pos := "code.go:107", after := #[{ on := 0, ground := Go.Ground.data }, { on := 9, ground := Go.Ground.data }], guard := none }
theorem fstep10 (_ : FCtx bc bi bb A1 A2 A3 n1 n2 n3 c1 c2 c3 w0) : FStep x0 x1 bc bi bb A1 A2 A3 n1 n2 n3 c1 c2 c3 w0 Q 10 := by
  intro b a w h hb hdep
  have d0 : b 0 = true := hdep fo10 rfl { on := 0, ground := .data } (by simp [fo10]) rfl
  have d9 : b 9 = true := hdep fo10 rfl { on := 9, ground := .data } (by simp [fo10]) rfl
  obtain ⟨M, fn, hM, hMB, hfn, hall⟩ := h.g d0
  have hv : IsV w (.clo 146 (n1 : Int)) (a.eval (.tmp 17)) := h.f (9, 17, .clo 146 (n1 : Int)) (by simp [fF]) d9
  obtain ⟨w', hrun, h1, hg, hs⟩ := hfn.run_put (keyLaw_int Try.underlying5) Try.underlying227 118 (a.eval (.tmp 17))
  refine wpOp_of (o := fo10) rfl rfl ?_
  have hr : (execOp a.eval fo10).run Try.prog w = .ok .skip w' := by
    have hrun' : (Instr.mapUpdate 227 (.map (some M)) (.int .u8 118) (a.eval (.tmp 17))).run Try.prog w = .ok () w' := hrun
    have hx : execOp a.eval fo10 = (do Instr.mapUpdate 227 (a.eval (.tmp 10)) (.int .u8 118) (a.eval (.tmp 17)); pure .skip) := rfl
    rw [hx, hM, Sem.run_bind, hrun']
    rfl
  unfold Oper.wp
  rw [hr]
  exact h.ins 10 118 (a.eval (.tmp 17)) hM hMB hfn hall d0 h1 hg (by simp [fF]) (by simp only [fG, List.mem_cons, List.not_mem_nil, or_false]; rintro x (rfl | rfl | rfl | rfl | rfl | rfl | rfl | rfl | rfl) hx <;> first | (cases hx; done) | exact ⟨rfl, hv⟩) (by simp [fG]) (by simp [fH])
def fo11 : Oper := { dst := some 18, op := Go.Op.load 226 (Go.Operand.tmp 5), type := 226, pos := "code.go:107", after := #[], guard := none }
theorem fstep11 (C : FCtx bc bi bb A1 A2 A3 n1 n2 n3 c1 c2 c3 w0) : FStep x0 x1 bc bi bb A1 A2 A3 n1 n2 n3 c1 c2 c3 w0 Q 11 := by
  intro b a w h hb hdep
  have e5 : a.eval (.tmp 5) = .pointer (some ⟨bb, 0, none⟩) := h.fixed (5, .pointer (some ⟨bb, 0, none⟩)) (by simp [fFix])
  have k1 := cell_below h.bel _ _ C.c1
  have k2 := cell_below h.bel _ _ C.c2
  have k3 := cell_below h.bel _ _ C.c3
  have kb := cell_below h.bel _ _ C.cb
  have hr : (execOp a.eval fo11).run Try.prog w = .ok (.value (.func (.func 145) #[] #[])) w := by
    simp only [execOp, fo11, e5]
    go_simp
  refine wpOp_of (o := fo11) rfl rfl ?_
  unfold Oper.wp
  rw [hr]
  exact h.put 11 18 _ (Below.refl _ _) h.bel.size (by decide) (by simp [fF, IsV]) (by simp [fF]) (by simp [fG]) (by simp [fH]) (by decide) (by decide) (by simp [fFix])
def fo12 : Oper := { dst := some 19, op := Go.Op.fieldAddr 26 (Go.Operand.tmp 2) 3, type := 0, pos := "code.go:107", after := #[], guard := none }
theorem fstep12 (_ : FCtx bc bi bb A1 A2 A3 n1 n2 n3 c1 c2 c3 w0) : FStep x0 x1 bc bi bb A1 A2 A3 n1 n2 n3 c1 c2 c3 w0 Q 12 := by
  intro b a w h hb hdep
  have e2 : a.eval (.tmp 2) = .pointer (some ⟨bc, 0, none⟩) := h.fixed (2, .pointer (some ⟨bc, 0, none⟩)) (by simp [fFix])
  have hr : (execOp a.eval fo12).run Try.prog w = .ok (.value (.pointer (some ⟨bc, 3, none⟩))) w := by
    simp only [execOp, fo12, e2]
    go_simp
  refine wpOp_of (o := fo12) rfl rfl ?_
  unfold Oper.wp
  rw [hr]
  exact h.put 12 19 _ (Below.refl _ _) h.bel.size (by decide) (by simp [fF, IsV]) (by simp [fF]) (by simp [fG]) (by simp [fH]) (by decide) (by decide) (by simp [fFix])
def fo13 : Oper := { dst := some 20, op := Go.Op.load 24 (Go.Operand.tmp 19), type := 24, pos := "code.go:107", after := #[{ on := 12, ground := Go.Ground.data }], guard := none }
theorem fstep13 (C : FCtx bc bi bb A1 A2 A3 n1 n2 n3 c1 c2 c3 w0) : FStep x0 x1 bc bi bb A1 A2 A3 n1 n2 n3 c1 c2 c3 w0 Q 13 := by
  intro b a w h hb hdep
  have d12 : b 12 = true := hdep fo13 rfl { on := 12, ground := .data } (by simp [fo13]) rfl
  have e19 : a.eval (.tmp 19) = .pointer (some ⟨bc, 3, none⟩) := h.f (12, 19, .val (.pointer (some ⟨bc, 3, none⟩))) (by simp [fF]) d12
  have k1 := cell_below h.bel _ _ C.c1
  have k2 := cell_below h.bel _ _ C.c2
  have k3 := cell_below h.bel _ _ C.c3
  have kb := cell_below h.bel _ _ C.cb
  have hr : (execOp a.eval fo13).run Try.prog w = .ok (.value (.slice A3 n3 c3)) w := by
    simp only [execOp, fo13, e19]
    go_simp
  refine wpOp_of (o := fo13) rfl rfl ?_
  unfold Oper.wp
  rw [hr]
  exact h.put 13 20 _ (Below.refl _ _) h.bel.size (by decide) (by simp [fF, IsV]) (by simp [fF]) (by simp [fG]) (by simp [fH]) (by decide) (by decide) (by simp [fFix])
def fo14 : Oper := { dst := some 21, op := Go.Op.call { callee := Go.Callee.builtin Go.Builtin.len, args := #[Go.Operand.tmp 20], argTypes := #[24] }, type := 3, pos := "code.go:107", after := #[{ on := 13, ground := Go.Ground.data }], guard := none }
theorem fstep14 (_ : FCtx bc bi bb A1 A2 A3 n1 n2 n3 c1 c2 c3 w0) : FStep x0 x1 bc bi bb A1 A2 A3 n1 n2 n3 c1 c2 c3 w0 Q 14 := by
  intro b a w h hb hdep
  have d13 : b 13 = true := hdep fo14 rfl { on := 13, ground := .data } (by simp [fo14]) rfl
  have e20 : a.eval (.tmp 20) = .slice A3 n3 c3 := h.f (13, 20, .val (.slice A3 n3 c3)) (by simp [fF]) d13
  have hr : (execOp a.eval fo14).run Try.prog w = .ok (.value (.int .i64 (n3 : Int))) w := by
    simp only [execOp, fo14, resolve, List.map_toArray, List.map_cons, List.map_nil, e20]
    go_simp
  refine wpOp_of (o := fo14) rfl rfl ?_
  unfold Oper.wp
  rw [hr]
  exact h.put 14 21 _ (Below.refl _ _) h.bel.size (by decide) (by simp [fF, IsV]) (by simp [fF]) (by simp [fG]) (by simp [fH]) (by decide) (by decide) (by simp [fFix])
def fo15 : Oper := { dst := some 22, op := Go.Op.binOp Go.BinOp.add 3 (Go.Operand.tmp 21) (Go.Operand.const (Go.Value.int Go.IntKind.i64 1)) 3, type := 3, pos := "code.go:107", after := #[{ on := 14, ground := Go.Ground.data }], guard := none }
theorem fstep15 (C : FCtx bc bi bb A1 A2 A3 n1 n2 n3 c1 c2 c3 w0) : FStep x0 x1 bc bi bb A1 A2 A3 n1 n2 n3 c1 c2 c3 w0 Q 15 := by
  intro b a w h hb hdep
  have d14 : b 14 = true := hdep fo15 rfl { on := 14, ground := .data } (by simp [fo15]) rfl
  have e21 : a.eval (.tmp 21) = .int .i64 (n3 : Int) := h.f (14, 21, .val (.int .i64 (n3 : Int))) (by simp [fF]) d14
  have m3 := C.m3
  have hr : (execOp a.eval fo15).run Try.prog w = .ok (.value (.int .i64 ((n3 : Int) + 1))) w := by
    simp only [execOp, fo15, e21]
    go_simp
    exact IntWalk.i64_in _ (by omega)
  refine wpOp_of (o := fo15) rfl rfl ?_
  unfold Oper.wp
  rw [hr]
  exact h.put 15 22 _ (Below.refl _ _) h.bel.size (by decide) (by simp [fF, IsV]) (by simp [fF]) (by simp [fG]) (by simp [fH]) (by decide) (by decide) (by simp [fFix])
def fo16 : Oper := { dst := some 23, op := Go.Op.call { callee := Go.Callee.value (Go.Operand.tmp 18), args := #[Go.Operand.tmp 22], argTypes := #[3] }, type := 132, pos := "code.go:108", after := #[{ on := 11, ground := Go.Ground.data }, { on := 15, ground := Go.Ground.data }, { on := 9, ground := Go.Ground.chain }], guard := none }
theorem fstep16 (C : FCtx bc bi bb A1 A2 A3 n1 n2 n3 c1 c2 c3 w0) : FStep x0 x1 bc bi bb A1 A2 A3 n1 n2 n3 c1 c2 c3 w0 Q 16 := by
  intro b a w h hb hdep
  have d11 : b 11 = true := hdep fo16 rfl { on := 11, ground := .data } (by simp [fo16]) rfl
  have d15 : b 15 = true := hdep fo16 rfl { on := 15, ground := .data } (by simp [fo16]) rfl
  have d9 : b 9 = true := hdep fo16 rfl { on := 9, ground := .chain } (by simp [fo16]) rfl
  have e18 : a.eval (.tmp 18) = .func (.func 145) #[] #[] := h.f (11, 18, .val (.func (.func 145) #[] #[])) (by simp [fF]) d11
  have e22 : a.eval (.tmp 22) = .int .i64 ((n3 : Int) + 1) := h.f (15, 22, .val (.int .i64 ((n3 : Int) + 1))) (by simp [fF]) d15
  have k1 := cell_below h.bel _ _ C.c1
  have k2 := cell_below h.bel _ _ C.c2
  have k3 := cell_below h.bel _ _ C.c3
  have kb := cell_below h.bel _ _ C.cb
  have hr : (execOp a.eval fo16).run Try.prog w = .ok (.enter 145 #[.int .i64 ((n3 : Int) + 1)]) w := by
    simp only [execOp, fo16, resolve, List.map_toArray, List.map_cons, List.map_nil, e18, e22]
    go_simp
  refine wpOp_of (o := fo16) rfl rfl ?_
  unfold Oper.wp
  rw [hr]
  refine (below_mk _ _).mono ?_
  rintro e w' ⟨rfl, rfl⟩
  exact h.put 16 23 _ ((Below.refl _ _).alloc (Nat.le_refl _) _) h.bel.size (by decide) (by simp [fF, IsV]; exact ⟨_, rfl, cell_new _ _ _⟩) (by simp [fF]) (by simp [fG]) (by simp [fH]) (by decide) (by decide) (by simp [fFix])
def fo17 : Oper := { dst := none, op := Go.Op.insert 227 (Go.Operand.tmp 10) (Go.Operand.const (Go.Value.int Go.IntKind.u8 106)) (Go.Operand.tmp 23), type := 0, pos := "code.go:107", after := #[{ on := 0, ground := Go.Ground.data }, { on := 16, ground := Go.Ground.data }], guard := none }
theorem fstep17 (_ : FCtx bc bi bb A1 A2 A3 n1 n2 n3 c1 c2 c3 w0) : FStep x0 x1 bc bi bb A1 A2 A3 n1 n2 n3 c1 c2 c3 w0 Q 17 := by
  intro b a w h hb hdep
  have d0 : b 0 = true := hdep fo17 rfl { on := 0, ground := .data } (by simp [fo17]) rfl
  have d16 : b 16 = true := hdep fo17 rfl { on := 16, ground := .data } (by simp [fo17]) rfl
  obtain ⟨M, fn, hM, hMB, hfn, hall⟩ := h.g d0
  have hv : IsV w (.clo 146 ((n3 : Int) + 1)) (a.eval (.tmp 23)) := h.f (16, 23, .clo 146 ((n3 : Int) + 1)) (by simp [fF]) d16
  obtain ⟨w', hrun, h1, hg, hs⟩ := hfn.run_put (keyLaw_int Try.underlying5) Try.underlying227 106 (a.eval (.tmp 23))
  refine wpOp_of (o := fo17) rfl rfl ?_
  have hr : (execOp a.eval fo17).run Try.prog w = .ok .skip w' := by
    have hrun' : (Instr.mapUpdate 227 (.map (some M)) (.int .u8 106) (a.eval (.tmp 23))).run Try.prog w = .ok () w' := hrun
    have hx : execOp a.eval fo17 = (do Instr.mapUpdate 227 (a.eval (.tmp 10)) (.int .u8 106) (a.eval (.tmp 23)); pure .skip) := rfl
    rw [hx, hM, Sem.run_bind, hrun']
    rfl
  unfold Oper.wp
  rw [hr]
  exact h.ins 17 106 (a.eval (.tmp 23)) hM hMB hfn hall d0 h1 hg (by simp [fF]) (by simp only [fG, List.mem_cons, List.not_mem_nil, or_false]; rintro x (rfl | rfl | rfl | rfl | rfl | rfl | rfl | rfl | rfl) hx <;> first | (cases hx; done) | exact ⟨rfl, hv⟩) (by simp [fG]) (by simp [fH])
def fo18 : Oper := { dst := some 24, op := Go.Op.load 226 (Go.Operand.tmp 5), type := 226, pos := "code.go:107", after := #[], guard := none }
theorem fstep18 (C : FCtx bc bi bb A1 A2 A3 n1 n2 n3 c1 c2 c3 w0) : FStep x0 x1 bc bi bb A1 A2 A3 n1 n2 n3 c1 c2 c3 w0 Q 18 := by
  intro b a w h hb hdep
  have e5 : a.eval (.tmp 5) = .pointer (some ⟨bb, 0, none⟩) := h.fixed (5, .pointer (some ⟨bb, 0, none⟩)) (by simp [fFix])
  have k1 := cell_below h.bel _ _ C.c1
  have k2 := cell_below h.bel _ _ C.c2
  have k3 := cell_below h.bel _ _ C.c3
  have kb := cell_below h.bel _ _ C.cb
  have hr : (execOp a.eval fo18).run Try.prog w = .ok (.value (.func (.func 145) #[] #[])) w := by
    simp only [execOp, fo18, e5]
    go_simp
  refine wpOp_of (o := fo18) rfl rfl ?_
  unfold Oper.wp
  rw [hr]
  exact h.put 18 24 _ (Below.refl _ _) h.bel.size (by decide) (by simp [fF, IsV]) (by simp [fF]) (by simp [fG]) (by simp [fH]) (by decide) (by decide) (by simp [fFix])
def fo19 : Oper := { dst := some 25, op := Go.Op.fieldAddr 26 (Go.Operand.tmp 2) 2, type := 0, pos := "code.go:107", after := #[], guard := none }
theorem fstep19 (_ : FCtx bc bi bb A1 A2 A3 n1 n2 n3 c1 c2 c3 w0) : FStep x0 x1 bc bi bb A1 A2 A3 n1 n2 n3 c1 c2 c3 w0 Q 19 := by
  intro b a w h hb hdep
  have e2 : a.eval (.tmp 2) = .pointer (some ⟨bc, 0, none⟩) := h.fixed (2, .pointer (some ⟨bc, 0, none⟩)) (by simp [fFix])
  have hr : (execOp a.eval fo19).run Try.prog w = .ok (.value (.pointer (some ⟨bc, 2, none⟩))) w := by
    simp only [execOp, fo19, e2]
    go_simp
  refine wpOp_of (o := fo19) rfl rfl ?_
  unfold Oper.wp
  rw [hr]
  exact h.put 19 25 _ (Below.refl _ _) h.bel.size (by decide) (by simp [fF, IsV]) (by simp [fF]) (by simp [fG]) (by simp [fH]) (by decide) (by decide) (by simp [fFix])
def fo20 : Oper := { dst := some 26, op := Go.Op.load 23 (Go.Operand.tmp 25), type := 23, pos := "code.go:107", after := #[{ on := 19, ground := Go.Ground.data }], guard := none }
theorem fstep20 (C : FCtx bc bi bb A1 A2 A3 n1 n2 n3 c1 c2 c3 w0) : FStep x0 x1 bc bi bb A1 A2 A3 n1 n2 n3 c1 c2 c3 w0 Q 20 := by
  intro b a w h hb hdep
  have d19 : b 19 = true := hdep fo20 rfl { on := 19, ground := .data } (by simp [fo20]) rfl
  have e25 : a.eval (.tmp 25) = .pointer (some ⟨bc, 2, none⟩) := h.f (19, 25, .val (.pointer (some ⟨bc, 2, none⟩))) (by simp [fF]) d19
  have k1 := cell_below h.bel _ _ C.c1
  have k2 := cell_below h.bel _ _ C.c2
  have k3 := cell_below h.bel _ _ C.c3
  have kb := cell_below h.bel _ _ C.cb
  have hr : (execOp a.eval fo20).run Try.prog w = .ok (.value (.slice A2 n2 c2)) w := by
    simp only [execOp, fo20, e25]
    go_simp
  refine wpOp_of (o := fo20) rfl rfl ?_
  unfold Oper.wp
  rw [hr]
  exact h.put 20 26 _ (Below.refl _ _) h.bel.size (by decide) (by simp [fF, IsV]) (by simp [fF]) (by simp [fG]) (by simp [fH]) (by decide) (by decide) (by simp [fFix])
def fo21 : Oper := { dst := some 27, op := Go.Op.call { callee := Go.Callee.builtin Go.Builtin.len, args := #[Go.Operand.tmp 26], argTypes := #[23] }, type := 3, pos := "code.go:107", after := #[{ on := 20, ground := Go.Ground.data }], guard := none }
theorem fstep21 (_ : FCtx bc bi bb A1 A2 A3 n1 n2 n3 c1 c2 c3 w0) : FStep x0 x1 bc bi bb A1 A2 A3 n1 n2 n3 c1 c2 c3 w0 Q 21 := by
  intro b a w h hb hdep
  have d20 : b 20 = true := hdep fo21 rfl { on := 20, ground := .data } (by simp [fo21]) rfl
  have e26 : a.eval (.tmp 26) = .slice A2 n2 c2 := h.f (20, 26, .val (.slice A2 n2 c2)) (by simp [fF]) d20
  have hr : (execOp a.eval fo21).run Try.prog w = .ok (.value (.int .i64 (n2 : Int))) w := by
    simp only [execOp, fo21, resolve, List.map_toArray, List.map_cons, List.map_nil, e26]
    go_simp
  refine wpOp_of (o := fo21) rfl rfl ?_
  unfold Oper.wp
  rw [hr]
  exact h.put 21 27 _ (Below.refl _ _) h.bel.size (by decide) (by simp [fF, IsV]) (by simp [fF]) (by simp [fG]) (by simp [fH]) (by decide) (by decide) (by simp [fFix])
def fo22 : Oper := { dst := some 28, op := Go.Op.call { callee := Go.Callee.value (Go.Operand.tmp 24), args := #[Go.Operand.tmp 27], argTypes := #[3] }, type := 132, pos := "code.go:108", after := #[{ on := 18, ground := Go.Ground.data }, { on := 21, ground := Go.Ground.data }, { on := 16, ground := Go.Ground.chain }], guard := none }
theorem fstep22 (C : FCtx bc bi bb A1 A2 A3 n1 n2 n3 c1 c2 c3 w0) : FStep x0 x1 bc bi bb A1 A2 A3 n1 n2 n3 c1 c2 c3 w0 Q 22 := by
  intro b a w h hb hdep
  have d18 : b 18 = true := hdep fo22 rfl { on := 18, ground := .data } (by simp [fo22]) rfl
  have d21 : b 21 = true := hdep fo22 rfl { on := 21, ground := .data } (by simp [fo22]) rfl
  have d16 : b 16 = true := hdep fo22 rfl { on := 16, ground := .chain } (by simp [fo22]) rfl
  have e24 : a.eval (.tmp 24) = .func (.func 145) #[] #[] := h.f (18, 24, .val (.func (.func 145) #[] #[])) (by simp [fF]) d18
  have e27 : a.eval (.tmp 27) = .int .i64 (n2 : Int) := h.f (21, 27, .val (.int .i64 (n2 : Int))) (by simp [fF]) d21
  have k1 := cell_below h.bel _ _ C.c1
  have k2 := cell_below h.bel _ _ C.c2
  have k3 := cell_below h.bel _ _ C.c3
  have kb := cell_below h.bel _ _ C.cb
  have hr : (execOp a.eval fo22).run Try.prog w = .ok (.enter 145 #[.int .i64 (n2 : Int)]) w := by
    simp only [execOp, fo22, resolve, List.map_toArray, List.map_cons, List.map_nil, e24, e27]
    go_simp
  refine wpOp_of (o := fo22) rfl rfl ?_
  unfold Oper.wp
  rw [hr]
  refine (below_mk _ _).mono ?_
  rintro e w' ⟨rfl, rfl⟩
  exact h.put 22 28 _ ((Below.refl _ _).alloc (Nat.le_refl _) _) h.bel.size (by decide) (by simp [fF, IsV]; exact ⟨_, rfl, cell_new _ _ _⟩) (by simp [fF]) (by simp [fG]) (by simp [fH]) (by decide) (by decide) (by simp [fFix])
def fo23 : Oper := { dst := none, op := Go.Op.insert 227 (Go.Operand.tmp 10) (Go.Operand.const (Go.Value.int Go.IntKind.u8 98)) (Go.Operand.tmp 28), type := 0, pos := "code.go:107", after := #[{ on := 0, ground := Go.Ground.data }, { on := 22, ground := Go.Ground.data }], guard := none }
theorem fstep23 (_ : FCtx bc bi bb A1 A2 A3 n1 n2 n3 c1 c2 c3 w0) : FStep x0 x1 bc bi bb A1 A2 A3 n1 n2 n3 c1 c2 c3 w0 Q 23 := by
  intro b a w h hb hdep
  have d0 : b 0 = true := hdep fo23 rfl { on := 0, ground := .data } (by simp [fo23]) rfl
  have d22 : b 22 = true := hdep fo23 rfl { on := 22, ground := .data } (by simp [fo23]) rfl
  obtain ⟨M, fn, hM, hMB, hfn, hall⟩ := h.g d0
  have hv : IsV w (.clo 146 (n2 : Int)) (a.eval (.tmp 28)) := h.f (22, 28, .clo 146 (n2 : Int)) (by simp [fF]) d22
  obtain ⟨w', hrun, h1, hg, hs⟩ := hfn.run_put (keyLaw_int Try.underlying5) Try.underlying227 98 (a.eval (.tmp 28))
  refine wpOp_of (o := fo23) rfl rfl ?_
  have hr : (execOp a.eval fo23).run Try.prog w = .ok .skip w' := by
    have hrun' : (Instr.mapUpdate 227 (.map (some M)) (.int .u8 98) (a.eval (.tmp 28))).run Try.prog w = .ok () w' := hrun
    have hx : execOp a.eval fo23 = (do Instr.mapUpdate 227 (a.eval (.tmp 10)) (.int .u8 98) (a.eval (.tmp 28)); pure .skip) := rfl
    rw [hx, hM, Sem.run_bind, hrun']
    rfl
  unfold Oper.wp
  rw [hr]
  exact h.ins 23 98 (a.eval (.tmp 28)) hM hMB hfn hall d0 h1 hg (by simp [fF]) (by simp only [fG, List.mem_cons, List.not_mem_nil, or_false]; rintro x (rfl | rfl | rfl | rfl | rfl | rfl | rfl | rfl | rfl) hx <;> first | (cases hx; done) | exact ⟨rfl, hv⟩) (by simp [fG]) (by simp [fH])
def fo24 : Oper := { dst := none, op := Go.Op.insert 227 (Go.Operand.tmp 10) (Go.Operand.const (Go.Value.int Go.IntKind.u8 119)) (Go.Operand.func 147), type := 0, pos := "code.go:107", after := #[{ on := 0, ground := Go.Ground.data }], guard := none }
theorem fstep24 (_ : FCtx bc bi bb A1 A2 A3 n1 n2 n3 c1 c2 c3 w0) : FStep x0 x1 bc bi bb A1 A2 A3 n1 n2 n3 c1 c2 c3 w0 Q 24 := by
  intro b a w h hb hdep
  have d0 : b 0 = true := hdep fo24 rfl { on := 0, ground := .data } (by simp [fo24]) rfl
  obtain ⟨M, fn, hM, hMB, hfn, hall⟩ := h.g d0
  have hv : IsV w (.val (.func (.func 147) #[] #[])) (.func (.func 147) #[] #[]) := rfl
  obtain ⟨w', hrun, h1, hg, hs⟩ := hfn.run_put (keyLaw_int Try.underlying5) Try.underlying227 119 (.func (.func 147) #[] #[])
  refine wpOp_of (o := fo24) rfl rfl ?_
  have hr : (execOp a.eval fo24).run Try.prog w = .ok .skip w' := by
    have hrun' : (Instr.mapUpdate 227 (.map (some M)) (.int .u8 119) (.func (.func 147) #[] #[])).run Try.prog w = .ok () w' := hrun
    have hx : execOp a.eval fo24 = (do Instr.mapUpdate 227 (a.eval (.tmp 10)) (.int .u8 119) (.func (.func 147) #[] #[]); pure .skip) := rfl
    rw [hx, hM, Sem.run_bind, hrun']
    rfl
  unfold Oper.wp
  rw [hr]
  exact h.ins 24 119 (.func (.func 147) #[] #[]) hM hMB hfn hall d0 h1 hg (by simp [fF]) (by simp only [fG, List.mem_cons, List.not_mem_nil, or_false]; rintro x (rfl | rfl | rfl | rfl | rfl | rfl | rfl | rfl | rfl) hx <;> first | (cases hx; done) | exact ⟨rfl, hv⟩) (by simp [fG]) (by simp [fH])
def fo25 : Oper := { dst := some 29, op := Go.Op.makeFunc (Go.Fn.func 148) #[] #[Go.Operand.tmp 5, Go.Operand.tmp 2], type := 132, pos := "code.go:107", after := #[], guard := none }
theorem fstep25 (_ : FCtx bc bi bb A1 A2 A3 n1 n2 n3 c1 c2 c3 w0) : FStep x0 x1 bc bi bb A1 A2 A3 n1 n2 n3 c1 c2 c3 w0 Q 25 := by
  intro b a w h hb hdep
  have e2 : a.eval (.tmp 2) = .pointer (some ⟨bc, 0, none⟩) := h.fixed (2, .pointer (some ⟨bc, 0, none⟩)) (by simp [fFix])
  have e5 : a.eval (.tmp 5) = .pointer (some ⟨bb, 0, none⟩) := h.fixed (5, .pointer (some ⟨bb, 0, none⟩)) (by simp [fFix])
  have hr : (execOp a.eval fo25).run Try.prog w = .ok (.value (.func (.func 148) #[] #[.pointer (some ⟨bb, 0, none⟩), .pointer (some ⟨bc, 0, none⟩)])) w := by
    simp only [execOp, fo25, List.map_toArray, List.map_cons, List.map_nil, e2, e5]
    go_simp
  refine wpOp_of (o := fo25) rfl rfl ?_
  unfold Oper.wp
  rw [hr]
  exact h.put 25 29 _ (Below.refl _ _) h.bel.size (by decide) (by simp [fF, IsV]) (by simp [fF]) (by simp [fG]) (by simp [fH]) (by decide) (by decide) (by simp [fFix])
def fo26 : Oper := { dst := none, op := Go.Op.insert 227 (Go.Operand.tmp 10) (Go.Operand.const (Go.Value.int Go.IntKind.u8 115)) (Go.Operand.tmp 29), type := 0, pos := "code.go:107", after := #[{ on := 0, ground := Go.Ground.data }, { on := 25, ground := Go.Ground.data }], guard := none }
theorem fstep26 (_ : FCtx bc bi bb A1 A2 A3 n1 n2 n3 c1 c2 c3 w0) : FStep x0 x1 bc bi bb A1 A2 A3 n1 n2 n3 c1 c2 c3 w0 Q 26 := by
  intro b a w h hb hdep
  have d0 : b 0 = true := hdep fo26 rfl { on := 0, ground := .data } (by simp [fo26]) rfl
  have d25 : b 25 = true := hdep fo26 rfl { on := 25, ground := .data } (by simp [fo26]) rfl
  have e29 : a.eval (.tmp 29) = .func (.func 148) #[] #[.pointer (some ⟨bb, 0, none⟩), .pointer (some ⟨bc, 0, none⟩)] := h.f (25, 29, .val (.func (.func 148) #[] #[.pointer (some ⟨bb, 0, none⟩), .pointer (some ⟨bc, 0, none⟩)])) (by simp [fF]) d25
  obtain ⟨M, fn, hM, hMB, hfn, hall⟩ := h.g d0
  have hv : IsV w (.val (.func (.func 148) #[] #[.pointer (some ⟨bb, 0, none⟩), .pointer (some ⟨bc, 0, none⟩)])) (a.eval (.tmp 29)) := h.f (25, 29, .val (.func (.func 148) #[] #[.pointer (some ⟨bb, 0, none⟩), .pointer (some ⟨bc, 0, none⟩)])) (by simp [fF]) d25
  obtain ⟨w', hrun, h1, hg, hs⟩ := hfn.run_put (keyLaw_int Try.underlying5) Try.underlying227 115 (a.eval (.tmp 29))
  refine wpOp_of (o := fo26) rfl rfl ?_
  have hr : (execOp a.eval fo26).run Try.prog w = .ok .skip w' := by
    have hrun' : (Instr.mapUpdate 227 (.map (some M)) (.int .u8 115) (a.eval (.tmp 29))).run Try.prog w = .ok () w' := hrun
    have hx : execOp a.eval fo26 = (do Instr.mapUpdate 227 (a.eval (.tmp 10)) (.int .u8 115) (a.eval (.tmp 29)); pure .skip) := rfl
    rw [hx, hM, Sem.run_bind, hrun']
    rfl
  unfold Oper.wp
  rw [hr]
  exact h.ins 26 115 (a.eval (.tmp 29)) hM hMB hfn hall d0 h1 hg (by simp [fF]) (by simp only [fG, List.mem_cons, List.not_mem_nil, or_false]; rintro x (rfl | rfl | rfl | rfl | rfl | rfl | rfl | rfl | rfl) hx <;> first | (cases hx; done) | exact ⟨rfl, hv⟩) (by simp [fG]) (by simp [fH])
def fo27 : Oper := { dst := some 30, op := Go.Op.makeFunc (Go.Fn.func 149) #[] #[Go.Operand.tmp 3], type := 132, pos := "code.go:107", after := #[], guard := none }
theorem fstep27 (_ : FCtx bc bi bb A1 A2 A3 n1 n2 n3 c1 c2 c3 w0) : FStep x0 x1 bc bi bb A1 A2 A3 n1 n2 n3 c1 c2 c3 w0 Q 27 := by
  intro b a w h hb hdep
  have e3 : a.eval (.tmp 3) = .pointer (some ⟨bi, 0, none⟩) := h.fixed (3, .pointer (some ⟨bi, 0, none⟩)) (by simp [fFix])
  have hr : (execOp a.eval fo27).run Try.prog w = .ok (.value (.func (.func 149) #[] #[.pointer (some ⟨bi, 0, none⟩)])) w := by
    simp only [execOp, fo27, List.map_toArray, List.map_cons, List.map_nil, e3]
    go_simp
  refine wpOp_of (o := fo27) rfl rfl ?_
  unfold Oper.wp
  rw [hr]
  exact h.put 27 30 _ (Below.refl _ _) h.bel.size (by decide) (by simp [fF, IsV]) (by simp [fF]) (by simp [fG]) (by simp [fH]) (by decide) (by decide) (by simp [fFix])
def fo28 : Oper := { dst := none, op := Go.Op.insert 227 (Go.Operand.tmp 10) (Go.Operand.const (Go.Value.int Go.IntKind.u8 110)) (Go.Operand.tmp 30), type := 0, pos := "code.go:107", after := #[{ on := 0, ground := Go.Ground.data }, { on := 27, ground := Go.Ground.data }], guard := none }
theorem fstep28 (_ : FCtx bc bi bb A1 A2 A3 n1 n2 n3 c1 c2 c3 w0) : FStep x0 x1 bc bi bb A1 A2 A3 n1 n2 n3 c1 c2 c3 w0 Q 28 := by
  intro b a w h hb hdep
  have d0 : b 0 = true := hdep fo28 rfl { on := 0, ground := .data } (by simp [fo28]) rfl
  have d27 : b 27 = true := hdep fo28 rfl { on := 27, ground := .data } (by simp [fo28]) rfl
  have e30 : a.eval (.tmp 30) = .func (.func 149) #[] #[.pointer (some ⟨bi, 0, none⟩)] := h.f (27, 30, .val (.func (.func 149) #[] #[.pointer (some ⟨bi, 0, none⟩)])) (by simp [fF]) d27
  obtain ⟨M, fn, hM, hMB, hfn, hall⟩ := h.g d0
  have hv : IsV w (.val (.func (.func 149) #[] #[.pointer (some ⟨bi, 0, none⟩)])) (a.eval (.tmp 30)) := h.f (27, 30, .val (.func (.func 149) #[] #[.pointer (some ⟨bi, 0, none⟩)])) (by simp [fF]) d27
  obtain ⟨w', hrun, h1, hg, hs⟩ := hfn.run_put (keyLaw_int Try.underlying5) Try.underlying227 110 (a.eval (.tmp 30))
  refine wpOp_of (o := fo28) rfl rfl ?_
  have hr : (execOp a.eval fo28).run Try.prog w = .ok .skip w' := by
    have hrun' : (Instr.mapUpdate 227 (.map (some M)) (.int .u8 110) (a.eval (.tmp 30))).run Try.prog w = .ok () w' := hrun
    have hx : execOp a.eval fo28 = (do Instr.mapUpdate 227 (a.eval (.tmp 10)) (.int .u8 110) (a.eval (.tmp 30)); pure .skip) := rfl
    rw [hx, hM, Sem.run_bind, hrun']
    rfl
  unfold Oper.wp
  rw [hr]
  exact h.ins 28 110 (a.eval (.tmp 30)) hM hMB hfn hall d0 h1 hg (by simp [fF]) (by simp only [fG, List.mem_cons, List.not_mem_nil, or_false]; rintro x (rfl | rfl | rfl | rfl | rfl | rfl | rfl | rfl | rfl) hx <;> first | (cases hx; done) | exact ⟨rfl, hv⟩) (by simp [fG]) (by simp [fH])
def fo29 : Oper := { dst := some 31, op := Go.Op.makeFunc (Go.Fn.func 150) #[] #[Go.Operand.tmp 2, Go.Operand.tmp 3, Go.Operand.tmp 5], type := 132, pos := "code.go:107", after := #[], guard := none }
theorem fstep29 (_ : FCtx bc bi bb A1 A2 A3 n1 n2 n3 c1 c2 c3 w0) : FStep x0 x1 bc bi bb A1 A2 A3 n1 n2 n3 c1 c2 c3 w0 Q 29 := by
  intro b a w h hb hdep
  have e2 : a.eval (.tmp 2) = .pointer (some ⟨bc, 0, none⟩) := h.fixed (2, .pointer (some ⟨bc, 0, none⟩)) (by simp [fFix])
  have e3 : a.eval (.tmp 3) = .pointer (some ⟨bi, 0, none⟩) := h.fixed (3, .pointer (some ⟨bi, 0, none⟩)) (by simp [fFix])
  have e5 : a.eval (.tmp 5) = .pointer (some ⟨bb, 0, none⟩) := h.fixed (5, .pointer (some ⟨bb, 0, none⟩)) (by simp [fFix])
  have hr : (execOp a.eval fo29).run Try.prog w = .ok (.value (.func (.func 150) #[] #[.pointer (some ⟨bc, 0, none⟩), .pointer (some ⟨bi, 0, none⟩), .pointer (some ⟨bb, 0, none⟩)])) w := by
    simp only [execOp, fo29, List.map_toArray, List.map_cons, List.map_nil, e2, e3, e5]
    go_simp
  refine wpOp_of (o := fo29) rfl rfl ?_
  unfold Oper.wp
  rw [hr]
  exact h.put 29 31 _ (Below.refl _ _) h.bel.size (by decide) (by simp [fF, IsV]) (by simp [fF]) (by simp [fG]) (by simp [fH]) (by decide) (by decide) (by simp [fFix])
def fo30 : Oper := { dst := none, op := Go.Op.insert 227 (Go.Operand.tmp 10) (Go.Operand.const (Go.Value.int Go.IntKind.u8 112)) (Go.Operand.tmp 31), type := 0, pos := "code.go:107", after := #[{ on := 0, ground := Go.Ground.data }, { on := 29, ground := Go.Ground.data }], guard := none }
theorem fstep30 (_ : FCtx bc bi bb A1 A2 A3 n1 n2 n3 c1 c2 c3 w0) : FStep x0 x1 bc bi bb A1 A2 A3 n1 n2 n3 c1 c2 c3 w0 Q 30 := by
  intro b a w h hb hdep
  have d0 : b 0 = true := hdep fo30 rfl { on := 0, ground := .data } (by simp [fo30]) rfl
  have d29 : b 29 = true := hdep fo30 rfl { on := 29, ground := .data } (by simp [fo30]) rfl
  have e31 : a.eval (.tmp 31) = .func (.func 150) #[] #[.pointer (some ⟨bc, 0, none⟩), .pointer (some ⟨bi, 0, none⟩), .pointer (some ⟨bb, 0, none⟩)] := h.f (29, 31, .val (.func (.func 150) #[] #[.pointer (some ⟨bc, 0, none⟩), .pointer (some ⟨bi, 0, none⟩), .pointer (some ⟨bb, 0, none⟩)])) (by simp [fF]) d29
  obtain ⟨M, fn, hM, hMB, hfn, hall⟩ := h.g d0
  have hv : IsV w (.val (.func (.func 150) #[] #[.pointer (some ⟨bc, 0, none⟩), .pointer (some ⟨bi, 0, none⟩), .pointer (some ⟨bb, 0, none⟩)])) (a.eval (.tmp 31)) := h.f (29, 31, .val (.func (.func 150) #[] #[.pointer (some ⟨bc, 0, none⟩), .pointer (some ⟨bi, 0, none⟩), .pointer (some ⟨bb, 0, none⟩)])) (by simp [fF]) d29
  obtain ⟨w', hrun, h1, hg, hs⟩ := hfn.run_put (keyLaw_int Try.underlying5) Try.underlying227 112 (a.eval (.tmp 31))
  refine wpOp_of (o := fo30) rfl rfl ?_
  have hr : (execOp a.eval fo30).run Try.prog w = .ok .skip w' := by
    have hrun' : (Instr.mapUpdate 227 (.map (some M)) (.int .u8 112) (a.eval (.tmp 31))).run Try.prog w = .ok () w' := hrun
    have hx : execOp a.eval fo30 = (do Instr.mapUpdate 227 (a.eval (.tmp 10)) (.int .u8 112) (a.eval (.tmp 31)); pure .skip) := rfl
    rw [hx, hM, Sem.run_bind, hrun']
    rfl
  unfold Oper.wp
  rw [hr]
  exact h.ins 30 112 (a.eval (.tmp 31)) hM hMB hfn hall d0 h1 hg (by simp [fF]) (by simp only [fG, List.mem_cons, List.not_mem_nil, or_false]; rintro x (rfl | rfl | rfl | rfl | rfl | rfl | rfl | rfl | rfl) hx <;> first | (cases hx; done) | exact ⟨rfl, hv⟩) (by simp [fG]) (by simp [fH])
def fo31 : Oper := { dst := some 32, op := Go.Op.move (Go.Operand.tmp 10), type := 227, pos := "code.go:107", after := #[{ on := 0, ground := Go.Ground.data }, { on := 1, ground := Go.Ground.data }, { on := 2, ground := Go.Ground.data }, { on := 3, ground := Go.Ground.data }, { on := 4, ground := Go.Ground.data }, { on := 5, ground := Go.Ground.data }, { on := 6, ground := Go.Ground.data }, { on := 7, ground := Go.Ground.data }, { on := 8, ground := Go.Ground.data }, { on := 9, ground := Go.Ground.data }, { on := 10, ground := Go.Ground.data }, { on := 11, ground := Go.Ground.data }, { on := 12, ground := Go.Ground.data }, { on := 13, ground := Go.Ground.data }, { on := 14, ground := Go.Ground.data }, { on := 15, ground := Go.Ground.data }, { on := 16, ground := Go.Ground.data }, { on := 17, ground := Go.Ground.data }, { on := 18, ground := Go.Ground.data }, { on := 19, ground := Go.Ground.data }, { on := 20, ground := Go.Ground.data }, { on := 21, ground := Go.Ground.data }, { on := 22, ground := Go.Ground.data }, { on := 23, ground := Go.Ground.data }, { on := 24, ground := Go.Ground.data }, { on := 25, ground := Go.Ground.data }, { on := 26, ground := Go.Ground.data }, { on := 27, ground := Go.Ground.data }, { on := 28, ground := Go.Ground.data }, { on := 29, ground := Go.Ground.data }, { on := 30, ground := Go.Ground.data }], guard := none }
theorem fstep31 (_ : FCtx bc bi bb A1 A2 A3 n1 n2 n3 c1 c2 c3 w0) : FStep x0 x1 bc bi bb A1 A2 A3 n1 n2 n3 c1 c2 c3 w0 Q 31 := by
  intro b a w h hb hdep
  have d0 : b 0 = true := hdep fo31 rfl { on := 0, ground := .data } (by simp [fo31]) rfl
  have d1 : b 1 = true := hdep fo31 rfl { on := 1, ground := .data } (by simp [fo31]) rfl
  have d2 : b 2 = true := hdep fo31 rfl { on := 2, ground := .data } (by simp [fo31]) rfl
  have d3 : b 3 = true := hdep fo31 rfl { on := 3, ground := .data } (by simp [fo31]) rfl
  have d4 : b 4 = true := hdep fo31 rfl { on := 4, ground := .data } (by simp [fo31]) rfl
  have d5 : b 5 = true := hdep fo31 rfl { on := 5, ground := .data } (by simp [fo31]) rfl
  have d6 : b 6 = true := hdep fo31 rfl { on := 6, ground := .data } (by simp [fo31]) rfl
  have d7 : b 7 = true := hdep fo31 rfl { on := 7, ground := .data } (by simp [fo31]) rfl
  have d8 : b 8 = true := hdep fo31 rfl { on := 8, ground := .data } (by simp [fo31]) rfl
  have d9 : b 9 = true := hdep fo31 rfl { on := 9, ground := .data } (by simp [fo31]) rfl
  have d10 : b 10 = true := hdep fo31 rfl { on := 10, ground := .data } (by simp [fo31]) rfl
  have d11 : b 11 = true := hdep fo31 rfl { on := 11, ground := .data } (by simp [fo31]) rfl
  have d12 : b 12 = true := hdep fo31 rfl { on := 12, ground := .data } (by simp [fo31]) rfl
  have d13 : b 13 = true := hdep fo31 rfl { on := 13, ground := .data } (by simp [fo31]) rfl
  have d14 : b 14 = true := hdep fo31 rfl { on := 14, ground := .data } (by simp [fo31]) rfl
  have d15 : b 15 = true := hdep fo31 rfl { on := 15, ground := .data } (by simp [fo31]) rfl
  have d16 : b 16 = true := hdep fo31 rfl { on := 16, ground := .data } (by simp [fo31]) rfl
  have d17 : b 17 = true := hdep fo31 rfl { on := 17, ground := .data } (by simp [fo31]) rfl
  have d18 : b 18 = true := hdep fo31 rfl { on := 18, ground := .data } (by simp [fo31]) rfl
  have d19 : b 19 = true := hdep fo31 rfl { on := 19, ground := .data } (by simp [fo31]) rfl
  have d20 : b 20 = true := hdep fo31 rfl { on := 20, ground := .data } (by simp [fo31]) rfl
  have d21 : b 21 = true := hdep fo31 rfl { on := 21, ground := .data } (by simp [fo31]) rfl
  have d22 : b 22 = true := hdep fo31 rfl { on := 22, ground := .data } (by simp [fo31]) rfl
  have d23 : b 23 = true := hdep fo31 rfl { on := 23, ground := .data } (by simp [fo31]) rfl
  have d24 : b 24 = true := hdep fo31 rfl { on := 24, ground := .data } (by simp [fo31]) rfl
  have d25 : b 25 = true := hdep fo31 rfl { on := 25, ground := .data } (by simp [fo31]) rfl
  have d26 : b 26 = true := hdep fo31 rfl { on := 26, ground := .data } (by simp [fo31]) rfl
  have d27 : b 27 = true := hdep fo31 rfl { on := 27, ground := .data } (by simp [fo31]) rfl
  have d28 : b 28 = true := hdep fo31 rfl { on := 28, ground := .data } (by simp [fo31]) rfl
  have d29 : b 29 = true := hdep fo31 rfl { on := 29, ground := .data } (by simp [fo31]) rfl
  have d30 : b 30 = true := hdep fo31 rfl { on := 30, ground := .data } (by simp [fo31]) rfl
  have hr : (execOp a.eval fo31).run Try.prog w = .ok (.value (a.eval (.tmp 10))) w := rfl
  have dm : b 0 = true := d0
  refine wpOp_of (o := fo31) rfl rfl ?_
  unfold Oper.wp
  rw [hr]
  exact h.mov 31 32 dm (by decide) (by decide) (by simp [fF]) (by simp [fG]) (by simp [fH]) (by simp [fH]) (by simp [fFix])
def fo32 : Oper := { dst := some 6, op := Go.Op.assign (Go.Operand.tmp 32), type := 227, pos := "code.go:107", after := #[{ on := 31, ground := Go.Ground.data }, { on := 22, ground := Go.Ground.chain }, { on := 0, ground := Go.Ground.phase }, { on := 1, ground := Go.Ground.phase }, { on := 2, ground := Go.Ground.phase }, { on := 3, ground := Go.Ground.phase }, { on := 4, ground := Go.Ground.phase }, { on := 5, ground := Go.Ground.phase }, { on := 6, ground := Go.Ground.phase }, { on := 7, ground := Go.Ground.phase }, { on := 8, ground := Go.Ground.phase }, { on := 9, ground := Go.Ground.phase }, { on := 10, ground := Go.Ground.phase }, { on := 11, ground := Go.Ground.phase }, { on := 12, ground := Go.Ground.phase }, { on := 13, ground := Go.Ground.phase }, { on := 14, ground := Go.Ground.phase }, { on := 15, ground := Go.Ground.phase }, { on := 16, ground := Go.Ground.phase }, { on := 17, ground := Go.Ground.phase }, { on := 18, ground := Go.Ground.phase }, { on := 19, ground := Go.Ground.phase }, { on := 20, ground := Go.Ground.phase }, { on := 21, ground := Go.Ground.phase }, { on := 22, ground := Go.Ground.phase }, { on := 23, ground := Go.Ground.phase }, { on := 24, ground := Go.Ground.phase }, { on := 25, ground := Go.Ground.phase }, { on := 26, ground := Go.Ground.phase }, { on := 27, ground := Go.Ground.phase }, { on := 28, ground := Go.Ground.phase }, { on := 29, ground := Go.Ground.phase }, { on := 30, ground := Go.Ground.phase }, { on := 31, ground := Go.Ground.phase }], guard := none }
theorem fstep32 (_ : FCtx bc bi bb A1 A2 A3 n1 n2 n3 c1 c2 c3 w0) : FStep x0 x1 bc bi bb A1 A2 A3 n1 n2 n3 c1 c2 c3 w0 Q 32 := by
  intro b a w h hb hdep
  have d31 : b 31 = true := hdep fo32 rfl { on := 31, ground := .data } (by simp [fo32]) rfl
  have d22 : b 22 = true := hdep fo32 rfl { on := 22, ground := .chain } (by simp [fo32]) rfl
  have d0 : b 0 = true := hdep fo32 rfl { on := 0, ground := .phase } (by simp [fo32]) rfl
  have d1 : b 1 = true := hdep fo32 rfl { on := 1, ground := .phase } (by simp [fo32]) rfl
  have d2 : b 2 = true := hdep fo32 rfl { on := 2, ground := .phase } (by simp [fo32]) rfl
  have d3 : b 3 = true := hdep fo32 rfl { on := 3, ground := .phase } (by simp [fo32]) rfl
  have d4 : b 4 = true := hdep fo32 rfl { on := 4, ground := .phase } (by simp [fo32]) rfl
  have d5 : b 5 = true := hdep fo32 rfl { on := 5, ground := .phase } (by simp [fo32]) rfl
  have d6 : b 6 = true := hdep fo32 rfl { on := 6, ground := .phase } (by simp [fo32]) rfl
  have d7 : b 7 = true := hdep fo32 rfl { on := 7, ground := .phase } (by simp [fo32]) rfl
  have d8 : b 8 = true := hdep fo32 rfl { on := 8, ground := .phase } (by simp [fo32]) rfl
  have d9 : b 9 = true := hdep fo32 rfl { on := 9, ground := .phase } (by simp [fo32]) rfl
  have d10 : b 10 = true := hdep fo32 rfl { on := 10, ground := .phase } (by simp [fo32]) rfl
  have d11 : b 11 = true := hdep fo32 rfl { on := 11, ground := .phase } (by simp [fo32]) rfl
  have d12 : b 12 = true := hdep fo32 rfl { on := 12, ground := .phase } (by simp [fo32]) rfl
  have d13 : b 13 = true := hdep fo32 rfl { on := 13, ground := .phase } (by simp [fo32]) rfl
  have d14 : b 14 = true := hdep fo32 rfl { on := 14, ground := .phase } (by simp [fo32]) rfl
  have d15 : b 15 = true := hdep fo32 rfl { on := 15, ground := .phase } (by simp [fo32]) rfl
  have d16 : b 16 = true := hdep fo32 rfl { on := 16, ground := .phase } (by simp [fo32]) rfl
  have d17 : b 17 = true := hdep fo32 rfl { on := 17, ground := .phase } (by simp [fo32]) rfl
  have d18 : b 18 = true := hdep fo32 rfl { on := 18, ground := .phase } (by simp [fo32]) rfl
  have d19 : b 19 = true := hdep fo32 rfl { on := 19, ground := .phase } (by simp [fo32]) rfl
  have d20 : b 20 = true := hdep fo32 rfl { on := 20, ground := .phase } (by simp [fo32]) rfl
  have d21 : b 21 = true := hdep fo32 rfl { on := 21, ground := .phase } (by simp [fo32]) rfl
  have d23 : b 23 = true := hdep fo32 rfl { on := 23, ground := .phase } (by simp [fo32]) rfl
  have d24 : b 24 = true := hdep fo32 rfl { on := 24, ground := .phase } (by simp [fo32]) rfl
  have d25 : b 25 = true := hdep fo32 rfl { on := 25, ground := .phase } (by simp [fo32]) rfl
  have d26 : b 26 = true := hdep fo32 rfl { on := 26, ground := .phase } (by simp [fo32]) rfl
  have d27 : b 27 = true := hdep fo32 rfl { on := 27, ground := .phase } (by simp [fo32]) rfl
  have d28 : b 28 = true := hdep fo32 rfl { on := 28, ground := .phase } (by simp [fo32]) rfl
  have d29 : b 29 = true := hdep fo32 rfl { on := 29, ground := .phase } (by simp [fo32]) rfl
  have d30 : b 30 = true := hdep fo32 rfl { on := 30, ground := .phase } (by simp [fo32]) rfl
  have e32 : a.eval (.tmp 32) = a.eval (.tmp 10) := h.h (31, 32) (by simp [fH]) d31
  have hr : (execOp a.eval fo32).run Try.prog w = .ok (.value (a.eval (.tmp 10))) w := by rw [← e32]; rfl
  have dm : b 0 = true := h.ch (31, 32) (by simp [fH]) d31
  refine wpOp_of (o := fo32) rfl rfl ?_
  unfold Oper.wp
  rw [hr]
  exact h.mov 32 6 dm (by decide) (by decide) (by simp [fF]) (by simp [fG]) (by simp [fH]) (by simp [fH]) (by simp [fFix])
theorem arr_lit (A : Array Value) (n : Nat) (h : A.size = n) : A = ((List.range n).map fun i => A.getD i undef).toArray := by
  subst h
  apply Array.ext_getElem?
  intro i
  by_cases hi : i < A.size
  · simp [hi]
  · simp [hi]
theorem fits_hac : ∀ i o, fOps[i]? = some o → ∀ e ∈ o.after, Region.binds .any e = true → e.on < i := by
  have h : ((List.range fOps.size).all fun i => match fOps[i]? with | some o => o.after.all fun e => decide (e.on < i) | none => true) = true := by decide +kernel
  intro i o ho e he _
  have hi : i < fOps.size := (Array.getElem?_eq_some_iff.1 ho).1
  have h1 := List.all_eq_true.1 h i (List.mem_range.2 hi)
  rw [ho] at h1
  exact of_decide_eq_true (Array.all_eq_true_iff_forall_mem.1 h1 e he)
set_option maxRecDepth 100000 in
theorem fits_region (C : FCtx bc bi bb A1 A2 A3 n1 n2 n3 c1 c2 c3 w0) (cont : ∀ (u10 u11 u12 u13 u14 u15 u16 u17 u18 u19 u20 u21 u22 u23 u24 u25 u26 u27 u28 u29 u30 u31 u32 : Value) (M : Nat) (fn : Int → Option Value) (w : World), w0.heap.size ≤ M → MapFn mkU8 w M fn → (∀ x ∈ fG bc bi bb A1 A2 A3 n1 n2 n3 c1 c2 c3, ∃ v, fn x.2.1 = some v ∧ IsV w x.2.2 v) → Below w0.heap.size w0 w → Q .normal ⟨#[x0, x1, .pointer (some ⟨bc, 0, none⟩), .pointer (some ⟨bi, 0, none⟩), .bool false, .pointer (some ⟨bb, 0, none⟩), .map (some M), undef, undef, undef, u10, u11, u12, u13, u14, u15, u16, u17, u18, u19, u20, u21, u22, u23, u24, u25, u26, u27, u28, u29, u30, u31, u32, undef, undef, undef, undef, undef, undef, undef, undef, undef, undef, undef, undef, undef, undef, undef, undef, undef, undef, undef, undef, undef, undef, undef, undef, undef, undef], []⟩ w) :
    (Code.region 2 fOps true).wp Try.prog Q ⟨#[x0, x1, .pointer (some ⟨bc, 0, none⟩), .pointer (some ⟨bi, 0, none⟩), .bool false, .pointer (some ⟨bb, 0, none⟩), undef, undef, undef, undef, undef, undef, undef, undef, undef, undef, undef, undef, undef, undef, undef, undef, undef, undef, undef, undef, undef, undef, undef, undef, undef, undef, undef, undef, undef, undef, undef, undef, undef, undef, undef, undef, undef, undef, undef, undef, undef, undef, undef, undef, undef, undef, undef, undef, undef, undef, undef, undef, undef], []⟩ w0 := by
  refine wp_region_inv (ops := fOps) (by kernel_rfl) fits_hac (FSt x0 x1 bc bi bb A1 A2 A3 n1 n2 n3 c1 c2 c3 w0) ?_ ?_ ?_
  · exact { defers := rfl, size := rfl, fixed := by simp [fFix, Act.eval], bel := (Below.refl _ _).drew, f := (fun _ _ h => by cases h), g := (fun h => by cases h), h := (fun _ _ h => by cases h), cg := (fun _ _ h => by cases h), ch := (fun _ _ h => by cases h) }
  · intro i hi
    change i < 33 at hi
    match i, hi with
    | 0, _ => exact fstep0 C
    | 1, _ => exact fstep1 C
    | 2, _ => exact fstep2 C
    | 3, _ => exact fstep3 C
    | 4, _ => exact fstep4 C
    | 5, _ => exact fstep5 C
    | 6, _ => exact fstep6 C
    | 7, _ => exact fstep7 C
    | 8, _ => exact fstep8 C
    | 9, _ => exact fstep9 C
    | 10, _ => exact fstep10 C
    | 11, _ => exact fstep11 C
    | 12, _ => exact fstep12 C
    | 13, _ => exact fstep13 C
    | 14, _ => exact fstep14 C
    | 15, _ => exact fstep15 C
    | 16, _ => exact fstep16 C
    | 17, _ => exact fstep17 C
    | 18, _ => exact fstep18 C
    | 19, _ => exact fstep19 C
    | 20, _ => exact fstep20 C
    | 21, _ => exact fstep21 C
    | 22, _ => exact fstep22 C
    | 23, _ => exact fstep23 C
    | 24, _ => exact fstep24 C
    | 25, _ => exact fstep25 C
    | 26, _ => exact fstep26 C
    | 27, _ => exact fstep27 C
    | 28, _ => exact fstep28 C
    | 29, _ => exact fstep29 C
    | 30, _ => exact fstep30 C
    | 31, _ => exact fstep31 C
    | 32, _ => exact fstep32 C
    | k + 33, hk => exact absurd hk (by omega)
  · intro b a w hall h
    have hbel := h.bel
    have hlt : ∀ x ∈ fG bc bi bb A1 A2 A3 n1 n2 n3 c1 c2 c3, x.1 < fOps.size := by
      have hs : fOps.size = 33 := rfl
      rw [hs]; simp [fG]
    obtain ⟨M, fn, hM, hMB, hfn, hG⟩ := h.g (hall 0 (by decide))
    have e6 : a.eval (.tmp 6) = .map (some M) := (h.h (32, 6) (by simp [fH]) (hall 32 (by decide))).trans hM
    have e0 : a.eval (.tmp 0) = x0 := h.fixed (0, x0) (by simp [fFix])
    have e1 : a.eval (.tmp 1) = x1 := h.fixed (1, x1) (by simp [fFix])
    have e2 : a.eval (.tmp 2) = .pointer (some ⟨bc, 0, none⟩) := h.fixed (2, .pointer (some ⟨bc, 0, none⟩)) (by simp [fFix])
    have e3 : a.eval (.tmp 3) = .pointer (some ⟨bi, 0, none⟩) := h.fixed (3, .pointer (some ⟨bi, 0, none⟩)) (by simp [fFix])
    have e4 : a.eval (.tmp 4) = .bool false := h.fixed (4, .bool false) (by simp [fFix])
    have e5 : a.eval (.tmp 5) = .pointer (some ⟨bb, 0, none⟩) := h.fixed (5, .pointer (some ⟨bb, 0, none⟩)) (by simp [fFix])
    have e7 : a.eval (.tmp 7) = undef := h.fixed (7, undef) (by simp [fFix])
    have e8 : a.eval (.tmp 8) = undef := h.fixed (8, undef) (by simp [fFix])
    have e9 : a.eval (.tmp 9) = undef := h.fixed (9, undef) (by simp [fFix])
    have e33 : a.eval (.tmp 33) = undef := h.fixed (33, undef) (by simp [fFix])
    have e34 : a.eval (.tmp 34) = undef := h.fixed (34, undef) (by simp [fFix])
    have e35 : a.eval (.tmp 35) = undef := h.fixed (35, undef) (by simp [fFix])
    have e36 : a.eval (.tmp 36) = undef := h.fixed (36, undef) (by simp [fFix])
    have e37 : a.eval (.tmp 37) = undef := h.fixed (37, undef) (by simp [fFix])
    have e38 : a.eval (.tmp 38) = undef := h.fixed (38, undef) (by simp [fFix])
    have e39 : a.eval (.tmp 39) = undef := h.fixed (39, undef) (by simp [fFix])
    have e40 : a.eval (.tmp 40) = undef := h.fixed (40, undef) (by simp [fFix])
    have e41 : a.eval (.tmp 41) = undef := h.fixed (41, undef) (by simp [fFix])
    have e42 : a.eval (.tmp 42) = undef := h.fixed (42, undef) (by simp [fFix])
    have e43 : a.eval (.tmp 43) = undef := h.fixed (43, undef) (by simp [fFix])
    have e44 : a.eval (.tmp 44) = undef := h.fixed (44, undef) (by simp [fFix])
    have e45 : a.eval (.tmp 45) = undef := h.fixed (45, undef) (by simp [fFix])
    have e46 : a.eval (.tmp 46) = undef := h.fixed (46, undef) (by simp [fFix])
    have e47 : a.eval (.tmp 47) = undef := h.fixed (47, undef) (by simp [fFix])
    have e48 : a.eval (.tmp 48) = undef := h.fixed (48, undef) (by simp [fFix])
    have e49 : a.eval (.tmp 49) = undef := h.fixed (49, undef) (by simp [fFix])
    have e50 : a.eval (.tmp 50) = undef := h.fixed (50, undef) (by simp [fFix])
    have e51 : a.eval (.tmp 51) = undef := h.fixed (51, undef) (by simp [fFix])
    have e52 : a.eval (.tmp 52) = undef := h.fixed (52, undef) (by simp [fFix])
    have e53 : a.eval (.tmp 53) = undef := h.fixed (53, undef) (by simp [fFix])
    have e54 : a.eval (.tmp 54) = undef := h.fixed (54, undef) (by simp [fFix])
    have e55 : a.eval (.tmp 55) = undef := h.fixed (55, undef) (by simp [fFix])
    have e56 : a.eval (.tmp 56) = undef := h.fixed (56, undef) (by simp [fFix])
    have e57 : a.eval (.tmp 57) = undef := h.fixed (57, undef) (by simp [fFix])
    have e58 : a.eval (.tmp 58) = undef := h.fixed (58, undef) (by simp [fFix])
    have h1 := arr_lit a.tmps 59 h.size
    have h2 : ((List.range 59).map fun i => a.tmps.getD i undef) = [a.eval (.tmp 0), a.eval (.tmp 1), a.eval (.tmp 2), a.eval (.tmp 3), a.eval (.tmp 4), a.eval (.tmp 5), a.eval (.tmp 6), a.eval (.tmp 7), a.eval (.tmp 8), a.eval (.tmp 9), a.eval (.tmp 10), a.eval (.tmp 11), a.eval (.tmp 12), a.eval (.tmp 13), a.eval (.tmp 14), a.eval (.tmp 15), a.eval (.tmp 16), a.eval (.tmp 17), a.eval (.tmp 18), a.eval (.tmp 19), a.eval (.tmp 20), a.eval (.tmp 21), a.eval (.tmp 22), a.eval (.tmp 23), a.eval (.tmp 24), a.eval (.tmp 25), a.eval (.tmp 26), a.eval (.tmp 27), a.eval (.tmp 28), a.eval (.tmp 29), a.eval (.tmp 30), a.eval (.tmp 31), a.eval (.tmp 32), a.eval (.tmp 33), a.eval (.tmp 34), a.eval (.tmp 35), a.eval (.tmp 36), a.eval (.tmp 37), a.eval (.tmp 38), a.eval (.tmp 39), a.eval (.tmp 40), a.eval (.tmp 41), a.eval (.tmp 42), a.eval (.tmp 43), a.eval (.tmp 44), a.eval (.tmp 45), a.eval (.tmp 46), a.eval (.tmp 47), a.eval (.tmp 48), a.eval (.tmp 49), a.eval (.tmp 50), a.eval (.tmp 51), a.eval (.tmp 52), a.eval (.tmp 53), a.eval (.tmp 54), a.eval (.tmp 55), a.eval (.tmp 56), a.eval (.tmp 57), a.eval (.tmp 58)] := rfl
    rw [h2, e6, e0, e1, e2, e3, e4, e5, e7, e8, e9, e33, e34, e35, e36, e37, e38, e39, e40, e41, e42, e43, e44, e45, e46, e47, e48, e49, e50, e51, e52, e53, e54, e55, e56, e57, e58] at h1
    have hd := h.defers
    clear h2 h
    obtain ⟨tm, df⟩ := a
    simp only at h1 hd
    subst hd
    generalize Act.eval ⟨tm, []⟩ (.tmp 10) = u10, Act.eval ⟨tm, []⟩ (.tmp 11) = u11, Act.eval ⟨tm, []⟩ (.tmp 12) = u12, Act.eval ⟨tm, []⟩ (.tmp 13) = u13, Act.eval ⟨tm, []⟩ (.tmp 14) = u14, Act.eval ⟨tm, []⟩ (.tmp 15) = u15, Act.eval ⟨tm, []⟩ (.tmp 16) = u16, Act.eval ⟨tm, []⟩ (.tmp 17) = u17, Act.eval ⟨tm, []⟩ (.tmp 18) = u18, Act.eval ⟨tm, []⟩ (.tmp 19) = u19, Act.eval ⟨tm, []⟩ (.tmp 20) = u20, Act.eval ⟨tm, []⟩ (.tmp 21) = u21, Act.eval ⟨tm, []⟩ (.tmp 22) = u22, Act.eval ⟨tm, []⟩ (.tmp 23) = u23, Act.eval ⟨tm, []⟩ (.tmp 24) = u24, Act.eval ⟨tm, []⟩ (.tmp 25) = u25, Act.eval ⟨tm, []⟩ (.tmp 26) = u26, Act.eval ⟨tm, []⟩ (.tmp 27) = u27, Act.eval ⟨tm, []⟩ (.tmp 28) = u28, Act.eval ⟨tm, []⟩ (.tmp 29) = u29, Act.eval ⟨tm, []⟩ (.tmp 30) = u30, Act.eval ⟨tm, []⟩ (.tmp 31) = u31, Act.eval ⟨tm, []⟩ (.tmp 32) = u32 at h1
    subst h1
    exact cont _ _ _ _ _ _ _ _ _ _ _ _ _ _ _ _ _ _ _ _ _ _ _ M fn w hMB hfn (fun x hx => hG x hx (hall x.1 (hlt x hx))) hbel
end
end Go.Proofs.Ytiogpainajokkaa
