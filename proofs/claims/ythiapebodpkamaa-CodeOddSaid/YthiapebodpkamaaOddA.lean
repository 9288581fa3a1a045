/- CodeOdd's region that copies a program's slices. Printed by gen_odd.py. -/
import Derived.Test.YthiapebodpkamaaReg
import Derived.Test.YthiapebodpkamaaCodeA
import Derived.Test.YthiapebodpkamaaData
import Derived.Test.YthiapebodpkamaaBytesB
import Derived.IntWalk
import Derived.Laws.EntriesVeiled
namespace Go.Proofs.Ythiapebodpkamaa
open Go.RowKit
def OMade (B : Nat) (nm : ByteArray) (xs : List GVar) (ks : List Int) (is : List GIns) (w : World) (v : Value) : Prop := ∃ v1 v2 v3, v = .agg #[.string nm, v1, v2, v3] ∧ Own 41 4 encVar w B v1 xs ∧ Own 42 1 oneU8 w B v2 ks ∧ Own 38 4 encIns w B v3 is
def ODone (B : Nat) (nm : ByteArray) (xs : List GVar) (ks : List Int) (is : List GIns) (w : World) (v : Value) : Prop := ∃ g v1 v2 v3, v = .pointer (some ⟨g, 0, none⟩) ∧ B ≤ g ∧ w.heap[g]? = some (.cells #[.string nm, v1, v2, v3] 32 (0, 0)) ∧ Own 41 4 encVar w B v1 xs ∧ Own 42 1 oneU8 w B v2 ks ∧ Own 38 4 encIns w B v3 is
theorem encVar_one : ∀ y, ∀ u ∈ encVar y, u.oneCell' = true := by
  intro y u hu
  simp only [encVar, List.mem_cons, List.not_mem_nil, or_false] at hu
  rcases hu with rfl | rfl | rfl | rfl <;> rfl
theorem encIns_one : ∀ y, ∀ u ∈ encIns y, u.oneCell' = true := by
  intro y u hu
  simp only [encIns, List.mem_cons, List.not_mem_nil, or_false] at hu
  rcases hu with rfl | rfl | rfl | rfl <;> rfl
theorem oinfo41 : ∃ i, Try.prog.info? 41 = some i ∧ i.zero = some (.agg #[.string ⟨#[]⟩, .int .u8 0, .int .u8 0, .int .i64 0]) ∧ i.size = 4 ∧ i.bytes = 32 := by
  have h : (Try.prog.info? 41).map (fun i => (i.zero, i.size, i.bytes)) = some (some (.agg #[.string ⟨#[]⟩, .int .u8 0, .int .u8 0, .int .i64 0]), 4, 32) := by kernel_rfl
  obtain ⟨i, h1, h2⟩ := Option.map_eq_some_iff.1 h
  simp only [Prod.mk.injEq] at h2
  exact ⟨i, h1, h2.1, h2.2.1, h2.2.2⟩
theorem oinfo42 : ∃ i, Try.prog.info? 42 = some i ∧ i.zero = some (.int .u8 0) ∧ i.size = 1 ∧ i.bytes = 1 := by
  have h : (Try.prog.info? 42).map (fun i => (i.zero, i.size, i.bytes)) = some (some (.int .u8 0), 1, 1) := by kernel_rfl
  obtain ⟨i, h1, h2⟩ := Option.map_eq_some_iff.1 h
  simp only [Prod.mk.injEq] at h2
  exact ⟨i, h1, h2.1, h2.2.1, h2.2.2⟩
theorem oinfo38 : ∃ i, Try.prog.info? 38 = some i ∧ i.zero = some (.agg #[.int .u8 0, .int .u8 0, .int .i64 0, .int .i64 0]) ∧ i.size = 4 ∧ i.bytes = 24 := by
  have h : (Try.prog.info? 38).map (fun i => (i.zero, i.size, i.bytes)) = some (some (.agg #[.int .u8 0, .int .u8 0, .int .i64 0, .int .i64 0]), 4, 24) := by kernel_rfl
  obtain ⟨i, h1, h2⟩ := Option.map_eq_some_iff.1 h
  simp only [Prod.mk.injEq] at h2
  exact ⟨i, h1, h2.1, h2.2.1, h2.2.2⟩
def oOps : Array Oper := #[{ dst := some 17, op := Go.Op.fieldAddr 32 (Go.Operand.tmp 3) 0, type := 0, pos := "outright.go:73", after := #[], guard := none },
  { dst := some 18, op := Go.Op.load 9 (Go.Operand.tmp 17), type := 9, pos := "outright.go:73", after := #[{ on := 0, ground := Go.Ground.data }], guard := none },
  { dst := some 19, op := Go.Op.buildSlice 28 0 #[], type := 28, pos := "outright.go:73", after := #[], guard := none },
  { dst := some 20, op := Go.Op.fieldAddr 32 (Go.Operand.tmp 3) 1, type := 0, pos := "outright.go:73", after := #[], guard := none },
  { dst := some 21, op := Go.Op.load 28 (Go.Operand.tmp 20), type := 28, pos := "outright.go:73", after := #[{ on := 3, ground := Go.Ground.data }], guard := none },
  { dst := some 22, op := Go.Op.call { callee := Go.Callee.builtin Go.Builtin.append, args := #[Go.Operand.tmp 19, Go.Operand.tmp 21], argTypes := #[28, 28] }, type := 28, pos := "outright.go:73", after := #[{ on := 2, ground := Go.Ground.data }, { on := 4, ground := Go.Ground.data }], guard := none },
  { dst := some 23, op := Go.Op.buildSlice 29 0 #[], type := 29, pos := "outright.go:73", after := #[], guard := none },
  { dst := some 24, op := Go.Op.fieldAddr 32 (Go.Operand.tmp 3) 2, type := 0, pos := "outright.go:73", after := #[], guard := none },
  { dst := some 25, op := Go.Op.load 29 (Go.Operand.tmp 24), type := 29, pos := "outright.go:73", after := #[{ on := 7, ground := Go.Ground.data }], guard := none },
  { dst := some 26, op := Go.Op.call { callee := Go.Callee.builtin Go.Builtin.append, args := #[Go.Operand.tmp 23, Go.Operand.tmp 25], argTypes := #[29, 29] }, type := 29, pos := "outright.go:73", after := #[{ on := 6, ground := Go.Ground.data }, { on := 8, ground := Go.Ground.data }, { on := 5, ground := Go.Ground.chain }], guard := none },
  { dst := some 27, op := Go.Op.buildSlice 30 0 #[], type := 30, pos := "outright.go:73", after := #[], guard := none },
  { dst := some 28, op := Go.Op.fieldAddr 32 (Go.Operand.tmp 3) 3, type := 0, pos := "outright.go:73", after := #[], guard := none },
  { dst := some 29, op := Go.Op.load 30 (Go.Operand.tmp 28), type := 30, pos := "outright.go:73", after := #[{ on := 11, ground := Go.Ground.data }], guard := none },
  { dst := some 30, op := Go.Op.call { callee := Go.Callee.builtin Go.Builtin.append, args := #[Go.Operand.tmp 27, Go.Operand.tmp 29], argTypes := #[30, 30] }, type := 30, pos := "outright.go:73", after := #[{ on := 10, ground := Go.Ground.data }, { on := 12, ground := Go.Ground.data }, { on := 9, ground := Go.Ground.chain }], guard := none },
  { dst := some 31, op := Go.Op.build 32 #[(0, Go.Operand.tmp 18), (1, Go.Operand.tmp 22), (2, Go.Operand.tmp 26), (3, Go.Operand.tmp 30)], type := 32, pos := "outright.go:73", after := #[{ on := 1, ground := Go.Ground.data }, { on := 5, ground := Go.Ground.data }, { on := 9, ground := Go.Ground.data }, { on := 13, ground := Go.Ground.data }], guard := none },
  { dst := some 7, op := Go.Op.alloc 32, type := 0, pos := "outright.go:73", after := #[], guard := none },
  { dst := none, op := Go.Op.store 32 (Go.Operand.tmp 7) (Go.Operand.tmp 31), type := 0, pos := "outright.go:73", after := #[{ on := 15, ground := Go.Ground.data }, { on := 14, ground := Go.Ground.data }, { on := 13, ground := Go.Ground.chain }, { on := 0, ground := Go.Ground.phase }, { on := 1, ground := Go.Ground.phase }, { on := 2, ground := Go.Ground.phase }, { on := 3, ground := Go.Ground.phase }, { on := 4, ground := Go.Ground.phase }, { on := 5, ground := Go.Ground.phase }, { on := 6, ground := Go.Ground.phase }, { on := 7, ground := Go.Ground.phase }, { on := 8, ground := Go.Ground.phase }, { on := 9, ground := Go.Ground.phase }, { on := 10, ground := Go.Ground.phase }, { on := 11, ground := Go.Ground.phase }, { on := 12, ground := Go.Ground.phase }, { on := 13, ground := Go.Ground.phase }, { on := 14, ground := Go.Ground.phase }, { on := 15, ground := Go.Ground.phase }], guard := none }]
def oF (B : Nat) (bc : Nat) (nm : ByteArray) (A1 A2 A3 : Option Addr) (c1 c2 c3 : Nat) (xs : List GVar) (ks : List Int) (is : List GIns) : List Claim := [(0, [16], 17, .val (.pointer (some ⟨bc, 0, none⟩))), (1, [16], 18, .val (.string nm)), (2, [5, 16], 19, .row 41 4 0 []), (3, [16], 20, .val (.pointer (some ⟨bc, 1, none⟩))), (4, [16], 21, .val (.slice A1 xs.length c1)), (5, [16], 22, .row 41 4 xs.length (xs.flatMap encVar)), (6, [9, 16], 23, .row 42 1 0 []), (7, [16], 24, .val (.pointer (some ⟨bc, 2, none⟩))), (8, [16], 25, .val (.slice A2 ks.length c2)), (9, [16], 26, .row 42 1 ks.length (ks.flatMap oneU8)), (10, [13, 16], 27, .row 38 4 0 []), (11, [16], 28, .val (.pointer (some ⟨bc, 3, none⟩))), (12, [16], 29, .val (.slice A3 is.length c3)), (13, [16], 30, .row 38 4 is.length (is.flatMap encIns)), (14, [16], 31, .pred (OMade B nm xs ks is)), (15, [16], 7, .box 32 #[.string ⟨#[]⟩, .slice none 0 0, .slice none 0 0, .slice none 0 0]), (16, [], 7, .pred (ODone B nm xs ks is))]
def oD : List (Nat × Nat) := [(14, 5), (14, 9), (14, 13), (16, 0), (16, 1), (16, 2), (16, 3), (16, 4), (16, 5), (16, 6), (16, 7), (16, 8), (16, 9), (16, 10), (16, 11), (16, 12), (16, 13), (16, 14), (16, 15)]
def oFix (bc : Nat) (x0 x1 x2 x4 x5 x6 x8 x9 x10 x11 x12 x13 x14 x15 x16 : Value) : List (Nat × Value) := [(0, x0), (1, x1), (2, x2), (3, .pointer (some ⟨bc, 0, none⟩)), (4, x4), (5, x5), (6, x6), (8, x8), (9, x9), (10, x10), (11, x11), (12, x12), (13, x13), (14, x14), (15, x15), (16, x16), (32, undef), (33, undef), (34, undef), (35, undef), (36, undef), (37, undef), (38, undef), (39, undef), (40, undef), (41, undef), (42, undef), (43, undef), (44, undef), (45, undef), (46, undef), (47, undef), (48, undef), (49, undef), (50, undef), (51, undef), (52, undef), (53, undef), (54, undef), (55, undef), (56, undef), (57, undef), (58, undef), (59, undef), (60, undef), (61, undef), (62, undef), (63, undef), (64, undef), (65, undef), (66, undef), (67, undef), (68, undef), (69, undef), (70, undef), (71, undef), (72, undef), (73, undef), (74, undef), (75, undef), (76, undef), (77, undef), (78, undef), (79, undef), (80, undef), (81, undef), (82, undef), (83, undef), (84, undef), (85, undef), (86, undef), (87, undef), (88, undef), (89, undef), (90, undef), (91, undef), (92, undef), (93, undef)]
theorem oF_fine (B : Nat) (bc : Nat) (nm : ByteArray) (A1 A2 A3 : Option Addr) (c1 c2 c3 : Nat) (xs : List GVar) (ks : List Int) (is : List GIns) : ∀ x ∈ oF B bc nm A1 A2 A3 c1 c2 c3 xs ks is, x.2.2.2.Fine := by
  have h1 : ∀ w w' v, Below w.heap.size w w' → OMade B nm xs ks is w v → OMade B nm xs ks is w' v := fun w w' v hb ⟨v1, v2, v3, e, o1, o2, o3⟩ => ⟨v1, v2, v3, e, o1.below hb, o2.below hb, o3.below hb⟩
  have h2 : ∀ w w' v, Below w.heap.size w w' → ODone B nm xs ks is w v → ODone B nm xs ks is w' v := fun w w' v hb ⟨g, v1, v2, v3, e, l, e2, o1, o2, o3⟩ => ⟨g, v1, v2, v3, e, l, by rw [hb.block g (Array.getElem?_eq_some_iff.1 e2).1]; exact e2, o1.below hb, o2.below hb, o3.below hb⟩
  intro x hx
  simp only [oF, List.mem_cons, List.not_mem_nil, or_false] at hx
  rcases hx with rfl | rfl | rfl | rfl | rfl | rfl | rfl | rfl | rfl | rfl | rfl | rfl | rfl | rfl | rfl | rfl | rfl
  all_goals first | trivial | exact h1 | exact h2
structure OCtx (bc : Nat) (nm : ByteArray) (A1 A2 A3 : Option Addr) (c1 c2 c3 : Nat) (xs : List GVar) (ks : List Int) (is : List GIns) (w0 : World) : Prop where
  q0 : w0.cell? ⟨bc, 0, none⟩ = some (.string nm)
  q1 : w0.cell? ⟨bc, 1, none⟩ = some (.slice A1 xs.length c1)
  q2 : w0.cell? ⟨bc, 2, none⟩ = some (.slice A2 ks.length c2)
  q3 : w0.cell? ⟨bc, 3, none⟩ = some (.slice A3 is.length c3)
  r1 : Rd encVar 4 w0 (.slice A1 xs.length c1) xs
  r2 : Rd oneU8 1 w0 (.slice A2 ks.length c2) ks
  r3 : Rd encIns 4 w0 (.slice A3 is.length c3) is
  m1 : xs.length ≤ 1000000
  m2 : ks.length ≤ 1000000
  m3 : is.length ≤ 1000000
abbrev OSt (x0 x1 x2 x4 x5 x6 x8 x9 x10 x11 x12 x13 x14 x15 x16 : Value) (bc : Nat) (nm : ByteArray) (A1 A2 A3 : Option Addr) (c1 c2 c3 : Nat) (xs : List GVar) (ks : List Int) (is : List GIns) (w0 : World) (b : Nat → Bool) (a : Act) (w : World) : Prop := RegSt (oF w0.heap.size bc nm A1 A2 A3 c1 c2 c3 xs ks is) oD (oFix bc x0 x1 x2 x4 x5 x6 x8 x9 x10 x11 x12 x13 x14 x15 x16) w0.heap.size w0 94 b a w
def OStep (x0 x1 x2 x4 x5 x6 x8 x9 x10 x11 x12 x13 x14 x15 x16 : Value) (bc : Nat) (nm : ByteArray) (A1 A2 A3 : Option Addr) (c1 c2 c3 : Nat) (xs : List GVar) (ks : List Int) (is : List GIns) (w0 : World) (Q : Exit → Act → World → Prop) (i : Nat) : Prop := ∀ b a w, OSt x0 x1 x2 x4 x5 x6 x8 x9 x10 x11 x12 x13 x14 x15 x16 bc nm A1 A2 A3 c1 c2 c3 xs ks is w0 b a w → b i = false → (∀ o, oOps[i]? = some o → ∀ e ∈ o.after, Region.binds .any e = true → b e.on = true) → wpOp Try.prog oOps Q i (OSt x0 x1 x2 x4 x5 x6 x8 x9 x10 x11 x12 x13 x14 x15 x16 bc nm A1 A2 A3 c1 c2 c3 xs ks is w0 (ub b i)) a w
section
variable {x0 x1 x2 x4 x5 x6 x8 x9 x10 x11 x12 x13 x14 x15 x16 : Value} {bc : Nat} {nm : ByteArray} {A1 A2 A3 : Option Addr} {c1 c2 c3 : Nat} {xs : List GVar} {ks : List Int} {is : List GIns} {w0 : World} {Q : Exit → Act → World → Prop}
def oo0 : Oper := { dst := some 17, op := Go.Op.fieldAddr 32 (Go.Operand.tmp 3) 0, type := 0, pos := "outright.go:73", after := #[], guard := none }
theorem ostep0 (_ : OCtx bc nm A1 A2 A3 c1 c2 c3 xs ks is w0) : OStep x0 x1 x2 x4 x5 x6 x8 x9 x10 x11 x12 x13 x14 x15 x16 bc nm A1 A2 A3 c1 c2 c3 xs ks is w0 Q 0 := by
  intro b a w h hb hdep
  have h16 : b 16 = false := by
    cases e : b 16 with
    | false => rfl
    | true =>
      have := h.dep (16, 0) (by simp [oD]) e
      rw [hb] at this; cases this
  have e3 : a.eval (.tmp 3) = .pointer (some ⟨bc, 0, none⟩) := h.fixed (3, .pointer (some ⟨bc, 0, none⟩)) (by simp [oFix])
  have hr : (execOp a.eval oo0).run Try.prog w = .ok (.value (.pointer (some ⟨bc, 0, none⟩))) w := by
    simp only [execOp, oo0, e3]
    go_simp
  refine wpOp_of (o := oo0) rfl rfl ?_
  unfold Oper.wp
  rw [hr]
  exact h.put 0 17 _ none (Nat.le_refl _) (oF_fine _ _ _ _ _ _ _ _ _ _ _ _) hb (.new (Below.refl _ _)) rfl rfl rfl (by decide) (by simp [oD]) (by simp [oF, Spec.holds])
def oo1 : Oper := { dst := some 18, op := Go.Op.load 9 (Go.Operand.tmp 17), type := 9, pos := "outright.go:73", after := #[{ on := 0, ground := Go.Ground.data }], guard := none }
theorem ostep1 (C : OCtx bc nm A1 A2 A3 c1 c2 c3 xs ks is w0) : OStep x0 x1 x2 x4 x5 x6 x8 x9 x10 x11 x12 x13 x14 x15 x16 bc nm A1 A2 A3 c1 c2 c3 xs ks is w0 Q 1 := by
  intro b a w h hb hdep
  have d0 : b 0 = true := hdep oo1 rfl { on := 0, ground := .data } (by simp [oo1]) rfl
  have h16 : b 16 = false := by
    cases e : b 16 with
    | false => rfl
    | true =>
      have := h.dep (16, 1) (by simp [oD]) e
      rw [hb] at this; cases this
  have e17 : a.eval (.tmp 17) = .pointer (some ⟨bc, 0, none⟩) := h.got (i := 0) (cs := [16]) (s := .val (.pointer (some ⟨bc, 0, none⟩))) (by simp [oF]) d0 (by simp [h16])
  have k0 := cell_below h.bel _ _ C.q0
  have k1 := cell_below h.bel _ _ C.q1
  have k2 := cell_below h.bel _ _ C.q2
  have k3 := cell_below h.bel _ _ C.q3
  have hr : (execOp a.eval oo1).run Try.prog w = .ok (.value (.string nm)) w := by
    simp only [execOp, oo1, e17]
    go_simp
  refine wpOp_of (o := oo1) rfl rfl ?_
  unfold Oper.wp
  rw [hr]
  exact h.put 1 18 _ none (Nat.le_refl _) (oF_fine _ _ _ _ _ _ _ _ _ _ _ _) hb (.new (Below.refl _ _)) rfl rfl rfl (by decide) (by simp [oD]) (by simp [oF, Spec.holds])
def oo2 : Oper := { dst := some 19, op := Go.Op.buildSlice 28 0 #[], type := 28, pos := "outright.go:73", after := #[], guard := none }
theorem ostep2 (_ : OCtx bc nm A1 A2 A3 c1 c2 c3 xs ks is w0) : OStep x0 x1 x2 x4 x5 x6 x8 x9 x10 x11 x12 x13 x14 x15 x16 bc nm A1 A2 A3 c1 c2 c3 xs ks is w0 Q 2 := by
  intro b a w h hb hdep
  have h16 : b 16 = false := by
    cases e : b 16 with
    | false => rfl
    | true =>
      have := h.dep (16, 2) (by simp [oD]) e
      rw [hb] at this; cases this
  have hr : (execOp a.eval oo2).run Try.prog w = .ok (.value (.slice (some ⟨w.heap.size, 0, none⟩) 0 0)) (w.alloc (.cells #[] 41)) := by
    simp only [execOp, oo2]
    go_simp
  refine wpOp_of (o := oo2) rfl rfl ?_
  unfold Oper.wp
  rw [hr]
  have hn := row_new0 w w0.heap.size (by have := h.bel.size; exact this) 41 4
  exact h.put 2 19 _ none (Nat.le_refl _) (oF_fine _ _ _ _ _ _ _ _ _ _ _ _) hb (.new ((Below.refl _ _).alloc (Nat.le_refl _) _)) rfl rfl rfl (by decide) (by simp [oD]) (by simpa [oF, Spec.holds] using hn)
def oo3 : Oper := { dst := some 20, op := Go.Op.fieldAddr 32 (Go.Operand.tmp 3) 1, type := 0, pos := "outright.go:73", after := #[], guard := none }
theorem ostep3 (_ : OCtx bc nm A1 A2 A3 c1 c2 c3 xs ks is w0) : OStep x0 x1 x2 x4 x5 x6 x8 x9 x10 x11 x12 x13 x14 x15 x16 bc nm A1 A2 A3 c1 c2 c3 xs ks is w0 Q 3 := by
  intro b a w h hb hdep
  have h16 : b 16 = false := by
    cases e : b 16 with
    | false => rfl
    | true =>
      have := h.dep (16, 3) (by simp [oD]) e
      rw [hb] at this; cases this
  have e3 : a.eval (.tmp 3) = .pointer (some ⟨bc, 0, none⟩) := h.fixed (3, .pointer (some ⟨bc, 0, none⟩)) (by simp [oFix])
  have hr : (execOp a.eval oo3).run Try.prog w = .ok (.value (.pointer (some ⟨bc, 1, none⟩))) w := by
    simp only [execOp, oo3, e3]
    go_simp
  refine wpOp_of (o := oo3) rfl rfl ?_
  unfold Oper.wp
  rw [hr]
  exact h.put 3 20 _ none (Nat.le_refl _) (oF_fine _ _ _ _ _ _ _ _ _ _ _ _) hb (.new (Below.refl _ _)) rfl rfl rfl (by decide) (by simp [oD]) (by simp [oF, Spec.holds])
def oo4 : Oper := { dst := some 21, op := Go.Op.load 28 (Go.Operand.tmp 20), type := 28, pos := "outright.go:73", after := #[{ on := 3, ground := Go.Ground.data }], guard := none }
theorem ostep4 (C : OCtx bc nm A1 A2 A3 c1 c2 c3 xs ks is w0) : OStep x0 x1 x2 x4 x5 x6 x8 x9 x10 x11 x12 x13 x14 x15 x16 bc nm A1 A2 A3 c1 c2 c3 xs ks is w0 Q 4 := by
  intro b a w h hb hdep
  have d3 : b 3 = true := hdep oo4 rfl { on := 3, ground := .data } (by simp [oo4]) rfl
  have h16 : b 16 = false := by
    cases e : b 16 with
    | false => rfl
    | true =>
      have := h.dep (16, 4) (by simp [oD]) e
      rw [hb] at this; cases this
  have e20 : a.eval (.tmp 20) = .pointer (some ⟨bc, 1, none⟩) := h.got (i := 3) (cs := [16]) (s := .val (.pointer (some ⟨bc, 1, none⟩))) (by simp [oF]) d3 (by simp [h16])
  have k0 := cell_below h.bel _ _ C.q0
  have k1 := cell_below h.bel _ _ C.q1
  have k2 := cell_below h.bel _ _ C.q2
  have k3 := cell_below h.bel _ _ C.q3
  have hr : (execOp a.eval oo4).run Try.prog w = .ok (.value (.slice A1 xs.length c1)) w := by
    simp only [execOp, oo4, e20]
    go_simp
  refine wpOp_of (o := oo4) rfl rfl ?_
  unfold Oper.wp
  rw [hr]
  exact h.put 4 21 _ none (Nat.le_refl _) (oF_fine _ _ _ _ _ _ _ _ _ _ _ _) hb (.new (Below.refl _ _)) rfl rfl rfl (by decide) (by simp [oD]) (by simp [oF, Spec.holds])
def oo5 : Oper := { dst := some 22, op := Go.Op.call { callee := Go.Callee.builtin Go.Builtin.append, args := #[Go.Operand.tmp 19, Go.Operand.tmp 21], argTypes := #[28, 28] }, type := 28, pos := "outright.go:73", after := #[{ on := 2, ground := Go.Ground.data }, { on := 4, ground := Go.Ground.data }], guard := none }
theorem ostep5 (C : OCtx bc nm A1 A2 A3 c1 c2 c3 xs ks is w0) : OStep x0 x1 x2 x4 x5 x6 x8 x9 x10 x11 x12 x13 x14 x15 x16 bc nm A1 A2 A3 c1 c2 c3 xs ks is w0 Q 5 := by
  intro b a w h hb hdep
  have d2 : b 2 = true := hdep oo5 rfl { on := 2, ground := .data } (by simp [oo5]) rfl
  have d4 : b 4 = true := hdep oo5 rfl { on := 4, ground := .data } (by simp [oo5]) rfl
  have h16 : b 16 = false := by
    cases e : b 16 with
    | false => rfl
    | true =>
      have := h.dep (16, 5) (by simp [oD]) e
      rw [hb] at this; cases this
  have o19 : Own 41 4 encVar w w0.heap.size (a.eval (.tmp 19)) [] := h.got (i := 2) (cs := [5, 16]) (s := .row 41 4 0 []) (by simp [oF]) d2 (by simp [h16, hb])
  have e21 : a.eval (.tmp 21) = .slice A1 xs.length c1 := h.got (i := 4) (cs := [16]) (s := .val (.slice A1 xs.length c1)) (by simp [oF]) d4 (by simp [h16])
  obtain ⟨i0, hi, hz0, hz1, hz2⟩ := oinfo41
  refine wpOp_of (o := oo5) rfl rfl (wp_append_rd (.tmp 19) (.tmp 21) 28 rfl w0.heap.size 41 i0 _ 4 _ Try.underlying28 hi hz0 hz1 hz2 rfl (by decide) (by decide) encVar encVar_len encVar_one _ [] rfl o19 _ xs e21 (C.r1.below h.bel) (by have := C.m1; simp; omega) h.bel.size ?_)
  intro v' w' ho hrow
  exact h.put 5 22 v' (some 41) (Nat.le_refl _) (oF_fine _ _ _ _ _ _ _ _ _ _ _ _) hb (.app (hrow.grow o19)) rfl rfl rfl (by decide) (by simp [oD]) (by simpa [oF, Spec.holds, Own] using ho)
def oo6 : Oper := { dst := some 23, op := Go.Op.buildSlice 29 0 #[], type := 29, pos := "outright.go:73", after := #[], guard := none }
theorem ostep6 (_ : OCtx bc nm A1 A2 A3 c1 c2 c3 xs ks is w0) : OStep x0 x1 x2 x4 x5 x6 x8 x9 x10 x11 x12 x13 x14 x15 x16 bc nm A1 A2 A3 c1 c2 c3 xs ks is w0 Q 6 := by
  intro b a w h hb hdep
  have h16 : b 16 = false := by
    cases e : b 16 with
    | false => rfl
    | true =>
      have := h.dep (16, 6) (by simp [oD]) e
      rw [hb] at this; cases this
  have hr : (execOp a.eval oo6).run Try.prog w = .ok (.value (.slice (some ⟨w.heap.size, 0, none⟩) 0 0)) (w.alloc (.cells #[] 42)) := by
    simp only [execOp, oo6]
    go_simp
  refine wpOp_of (o := oo6) rfl rfl ?_
  unfold Oper.wp
  rw [hr]
  have hn := row_new0 w w0.heap.size (by have := h.bel.size; exact this) 42 1
  exact h.put 6 23 _ none (Nat.le_refl _) (oF_fine _ _ _ _ _ _ _ _ _ _ _ _) hb (.new ((Below.refl _ _).alloc (Nat.le_refl _) _)) rfl rfl rfl (by decide) (by simp [oD]) (by simpa [oF, Spec.holds] using hn)
def oo7 : Oper := { dst := some 24, op := Go.Op.fieldAddr 32 (Go.Operand.tmp 3) 2, type := 0, pos := "outright.go:73", after := #[], guard := none }
theorem ostep7 (_ : OCtx bc nm A1 A2 A3 c1 c2 c3 xs ks is w0) : OStep x0 x1 x2 x4 x5 x6 x8 x9 x10 x11 x12 x13 x14 x15 x16 bc nm A1 A2 A3 c1 c2 c3 xs ks is w0 Q 7 := by
  intro b a w h hb hdep
  have h16 : b 16 = false := by
    cases e : b 16 with
    | false => rfl
    | true =>
      have := h.dep (16, 7) (by simp [oD]) e
      rw [hb] at this; cases this
  have e3 : a.eval (.tmp 3) = .pointer (some ⟨bc, 0, none⟩) := h.fixed (3, .pointer (some ⟨bc, 0, none⟩)) (by simp [oFix])
  have hr : (execOp a.eval oo7).run Try.prog w = .ok (.value (.pointer (some ⟨bc, 2, none⟩))) w := by
    simp only [execOp, oo7, e3]
    go_simp
  refine wpOp_of (o := oo7) rfl rfl ?_
  unfold Oper.wp
  rw [hr]
  exact h.put 7 24 _ none (Nat.le_refl _) (oF_fine _ _ _ _ _ _ _ _ _ _ _ _) hb (.new (Below.refl _ _)) rfl rfl rfl (by decide) (by simp [oD]) (by simp [oF, Spec.holds])
def oo8 : Oper := { dst := some 25, op := Go.Op.load 29 (Go.Operand.tmp 24), type := 29, pos := "outright.go:73", after := #[{ on := 7, ground := Go.Ground.data }], guard := none }
theorem ostep8 (C : OCtx bc nm A1 A2 A3 c1 c2 c3 xs ks is w0) : OStep x0 x1 x2 x4 x5 x6 x8 x9 x10 x11 x12 x13 x14 x15 x16 bc nm A1 A2 A3 c1 c2 c3 xs ks is w0 Q 8 := by
  intro b a w h hb hdep
  have d7 : b 7 = true := hdep oo8 rfl { on := 7, ground := .data } (by simp [oo8]) rfl
  have h16 : b 16 = false := by
    cases e : b 16 with
    | false => rfl
    | true =>
      have := h.dep (16, 8) (by simp [oD]) e
      rw [hb] at this; cases this
  have e24 : a.eval (.tmp 24) = .pointer (some ⟨bc, 2, none⟩) := h.got (i := 7) (cs := [16]) (s := .val (.pointer (some ⟨bc, 2, none⟩))) (by simp [oF]) d7 (by simp [h16])
  have k0 := cell_below h.bel _ _ C.q0
  have k1 := cell_below h.bel _ _ C.q1
  have k2 := cell_below h.bel _ _ C.q2
  have k3 := cell_below h.bel _ _ C.q3
  have hr : (execOp a.eval oo8).run Try.prog w = .ok (.value (.slice A2 ks.length c2)) w := by
    simp only [execOp, oo8, e24]
    go_simp
  refine wpOp_of (o := oo8) rfl rfl ?_
  unfold Oper.wp
  rw [hr]
  exact h.put 8 25 _ none (Nat.le_refl _) (oF_fine _ _ _ _ _ _ _ _ _ _ _ _) hb (.new (Below.refl _ _)) rfl rfl rfl (by decide) (by simp [oD]) (by simp [oF, Spec.holds])
def oo9 : Oper := { dst := some 26, op := Go.Op.call { callee := Go.Callee.builtin Go.Builtin.append, args := #[Go.Operand.tmp 23, Go.Operand.tmp 25], argTypes := #[29, 29] }, type := 29, pos := "outright.go:73", after := #[{ on := 6, ground := Go.Ground.data }, { on := 8, ground := Go.Ground.data }, { on := 5, ground := Go.Ground.chain }], guard := none }
theorem ostep9 (C : OCtx bc nm A1 A2 A3 c1 c2 c3 xs ks is w0) : OStep x0 x1 x2 x4 x5 x6 x8 x9 x10 x11 x12 x13 x14 x15 x16 bc nm A1 A2 A3 c1 c2 c3 xs ks is w0 Q 9 := by
  intro b a w h hb hdep
  have d6 : b 6 = true := hdep oo9 rfl { on := 6, ground := .data } (by simp [oo9]) rfl
  have d8 : b 8 = true := hdep oo9 rfl { on := 8, ground := .data } (by simp [oo9]) rfl
  have d5 : b 5 = true := hdep oo9 rfl { on := 5, ground := .chain } (by simp [oo9]) rfl
  have h16 : b 16 = false := by
    cases e : b 16 with
    | false => rfl
    | true =>
      have := h.dep (16, 9) (by simp [oD]) e
      rw [hb] at this; cases this
  have o23 : Own 42 1 oneU8 w w0.heap.size (a.eval (.tmp 23)) [] := h.got (i := 6) (cs := [9, 16]) (s := .row 42 1 0 []) (by simp [oF]) d6 (by simp [h16, hb])
  have e25 : a.eval (.tmp 25) = .slice A2 ks.length c2 := h.got (i := 8) (cs := [16]) (s := .val (.slice A2 ks.length c2)) (by simp [oF]) d8 (by simp [h16])
  obtain ⟨i0, hi, hz0, hz1, hz2⟩ := oinfo42
  refine wpOp_of (o := oo9) rfl rfl (wp_append_rd (.tmp 23) (.tmp 25) 29 rfl w0.heap.size 42 i0 _ 1 _ Try.underlying29 hi hz0 hz1 hz2 rfl (by decide) (by decide) oneU8 oneU8_len oneU8_one _ [] rfl o23 _ ks e25 (C.r2.below h.bel) (by have := C.m2; simp; omega) h.bel.size ?_)
  intro v' w' ho hrow
  exact h.put 9 26 v' (some 42) (Nat.le_refl _) (oF_fine _ _ _ _ _ _ _ _ _ _ _ _) hb (.app (hrow.grow o23)) rfl rfl rfl (by decide) (by simp [oD]) (by simpa [oF, Spec.holds, Own] using ho)
def oo10 : Oper := { dst := some 27, op := Go.Op.buildSlice 30 0 #[], type := 30, pos := "outright.go:73", after := #[], guard := none }
theorem ostep10 (_ : OCtx bc nm A1 A2 A3 c1 c2 c3 xs ks is w0) : OStep x0 x1 x2 x4 x5 x6 x8 x9 x10 x11 x12 x13 x14 x15 x16 bc nm A1 A2 A3 c1 c2 c3 xs ks is w0 Q 10 := by
  intro b a w h hb hdep
  have h16 : b 16 = false := by
    cases e : b 16 with
    | false => rfl
    | true =>
      have := h.dep (16, 10) (by simp [oD]) e
      rw [hb] at this; cases this
  have hr : (execOp a.eval oo10).run Try.prog w = .ok (.value (.slice (some ⟨w.heap.size, 0, none⟩) 0 0)) (w.alloc (.cells #[] 38)) := by
    simp only [execOp, oo10]
    go_simp
  refine wpOp_of (o := oo10) rfl rfl ?_
  unfold Oper.wp
  rw [hr]
  have hn := row_new0 w w0.heap.size (by have := h.bel.size; exact this) 38 4
  exact h.put 10 27 _ none (Nat.le_refl _) (oF_fine _ _ _ _ _ _ _ _ _ _ _ _) hb (.new ((Below.refl _ _).alloc (Nat.le_refl _) _)) rfl rfl rfl (by decide) (by simp [oD]) (by simpa [oF, Spec.holds] using hn)
def oo11 : Oper := { dst := some 28, op := Go.Op.fieldAddr 32 (Go.Operand.tmp 3) 3, type := 0, pos := "outright.go:73", after := #[], guard := none }
theorem ostep11 (_ : OCtx bc nm A1 A2 A3 c1 c2 c3 xs ks is w0) : OStep x0 x1 x2 x4 x5 x6 x8 x9 x10 x11 x12 x13 x14 x15 x16 bc nm A1 A2 A3 c1 c2 c3 xs ks is w0 Q 11 := by
  intro b a w h hb hdep
  have h16 : b 16 = false := by
    cases e : b 16 with
    | false => rfl
    | true =>
      have := h.dep (16, 11) (by simp [oD]) e
      rw [hb] at this; cases this
  have e3 : a.eval (.tmp 3) = .pointer (some ⟨bc, 0, none⟩) := h.fixed (3, .pointer (some ⟨bc, 0, none⟩)) (by simp [oFix])
  have hr : (execOp a.eval oo11).run Try.prog w = .ok (.value (.pointer (some ⟨bc, 3, none⟩))) w := by
    simp only [execOp, oo11, e3]
    go_simp
  refine wpOp_of (o := oo11) rfl rfl ?_
  unfold Oper.wp
  rw [hr]
  exact h.put 11 28 _ none (Nat.le_refl _) (oF_fine _ _ _ _ _ _ _ _ _ _ _ _) hb (.new (Below.refl _ _)) rfl rfl rfl (by decide) (by simp [oD]) (by simp [oF, Spec.holds])
def oo12 : Oper := { dst := some 29, op := Go.Op.load 30 (Go.Operand.tmp 28), type := 30, pos := "outright.go:73", after := #[{ on := 11, ground := Go.Ground.data }], guard := none }
theorem ostep12 (C : OCtx bc nm A1 A2 A3 c1 c2 c3 xs ks is w0) : OStep x0 x1 x2 x4 x5 x6 x8 x9 x10 x11 x12 x13 x14 x15 x16 bc nm A1 A2 A3 c1 c2 c3 xs ks is w0 Q 12 := by
  intro b a w h hb hdep
  have d11 : b 11 = true := hdep oo12 rfl { on := 11, ground := .data } (by simp [oo12]) rfl
  have h16 : b 16 = false := by
    cases e : b 16 with
    | false => rfl
    | true =>
      have := h.dep (16, 12) (by simp [oD]) e
      rw [hb] at this; cases this
  have e28 : a.eval (.tmp 28) = .pointer (some ⟨bc, 3, none⟩) := h.got (i := 11) (cs := [16]) (s := .val (.pointer (some ⟨bc, 3, none⟩))) (by simp [oF]) d11 (by simp [h16])
  have k0 := cell_below h.bel _ _ C.q0
  have k1 := cell_below h.bel _ _ C.q1
  have k2 := cell_below h.bel _ _ C.q2
  have k3 := cell_below h.bel _ _ C.q3
  have hr : (execOp a.eval oo12).run Try.prog w = .ok (.value (.slice A3 is.length c3)) w := by
    simp only [execOp, oo12, e28]
    go_simp
  refine wpOp_of (o := oo12) rfl rfl ?_
  unfold Oper.wp
  rw [hr]
  exact h.put 12 29 _ none (Nat.le_refl _) (oF_fine _ _ _ _ _ _ _ _ _ _ _ _) hb (.new (Below.refl _ _)) rfl rfl rfl (by decide) (by simp [oD]) (by simp [oF, Spec.holds])
def oo13 : Oper := { dst := some 30, op := Go.Op.call { callee := Go.Callee.builtin Go.Builtin.append, args := #[Go.Operand.tmp 27, Go.Operand.tmp 29], argTypes := #[30, 30] }, type := 30, pos := "outright.go:73", after := #[{ on := 10, ground := Go.Ground.data }, { on := 12, ground := Go.Ground.data }, { on := 9, ground := Go.Ground.chain }], guard := none }
theorem ostep13 (C : OCtx bc nm A1 A2 A3 c1 c2 c3 xs ks is w0) : OStep x0 x1 x2 x4 x5 x6 x8 x9 x10 x11 x12 x13 x14 x15 x16 bc nm A1 A2 A3 c1 c2 c3 xs ks is w0 Q 13 := by
  intro b a w h hb hdep
  have d10 : b 10 = true := hdep oo13 rfl { on := 10, ground := .data } (by simp [oo13]) rfl
  have d12 : b 12 = true := hdep oo13 rfl { on := 12, ground := .data } (by simp [oo13]) rfl
  have d9 : b 9 = true := hdep oo13 rfl { on := 9, ground := .chain } (by simp [oo13]) rfl
  have h16 : b 16 = false := by
    cases e : b 16 with
    | false => rfl
    | true =>
      have := h.dep (16, 13) (by simp [oD]) e
      rw [hb] at this; cases this
  have o27 : Own 38 4 encIns w w0.heap.size (a.eval (.tmp 27)) [] := h.got (i := 10) (cs := [13, 16]) (s := .row 38 4 0 []) (by simp [oF]) d10 (by simp [h16, hb])
  have e29 : a.eval (.tmp 29) = .slice A3 is.length c3 := h.got (i := 12) (cs := [16]) (s := .val (.slice A3 is.length c3)) (by simp [oF]) d12 (by simp [h16])
  obtain ⟨i0, hi, hz0, hz1, hz2⟩ := oinfo38
  refine wpOp_of (o := oo13) rfl rfl (wp_append_rd (.tmp 27) (.tmp 29) 30 rfl w0.heap.size 38 i0 _ 4 _ Try.underlying30 hi hz0 hz1 hz2 rfl (by decide) (by decide) encIns encIns_len encIns_one _ [] rfl o27 _ is e29 (C.r3.below h.bel) (by have := C.m3; simp; omega) h.bel.size ?_)
  intro v' w' ho hrow
  exact h.put 13 30 v' (some 38) (Nat.le_refl _) (oF_fine _ _ _ _ _ _ _ _ _ _ _ _) hb (.app (hrow.grow o27)) rfl rfl rfl (by decide) (by simp [oD]) (by simpa [oF, Spec.holds, Own] using ho)
def oo14 : Oper := { dst := some 31, op := Go.Op.build 32 #[(0, Go.Operand.tmp 18), (1, Go.Operand.tmp 22), (2, Go.Operand.tmp 26), (3, Go.Operand.tmp 30)], type := 32, pos := "outright.go:73", after := #[{ on := 1, ground := Go.Ground.data }, { on := 5, ground := Go.Ground.data }, { on := 9, ground := Go.Ground.data }, { on := 13, ground := Go.Ground.data }], guard := none }
theorem ostep14 (_ : OCtx bc nm A1 A2 A3 c1 c2 c3 xs ks is w0) : OStep x0 x1 x2 x4 x5 x6 x8 x9 x10 x11 x12 x13 x14 x15 x16 bc nm A1 A2 A3 c1 c2 c3 xs ks is w0 Q 14 := by
  intro b a w h hb hdep
  have d1 : b 1 = true := hdep oo14 rfl { on := 1, ground := .data } (by simp [oo14]) rfl
  have d5 : b 5 = true := hdep oo14 rfl { on := 5, ground := .data } (by simp [oo14]) rfl
  have d9 : b 9 = true := hdep oo14 rfl { on := 9, ground := .data } (by simp [oo14]) rfl
  have d13 : b 13 = true := hdep oo14 rfl { on := 13, ground := .data } (by simp [oo14]) rfl
  have h16 : b 16 = false := by
    cases e : b 16 with
    | false => rfl
    | true =>
      have := h.dep (16, 14) (by simp [oD]) e
      rw [hb] at this; cases this
  have e18 : a.eval (.tmp 18) = .string nm := h.got (i := 1) (cs := [16]) (s := .val (.string nm)) (by simp [oF]) d1 (by simp [h16])
  have o22 : Own 41 4 encVar w w0.heap.size (a.eval (.tmp 22)) xs := h.got (i := 5) (cs := [16]) (s := .row 41 4 xs.length (xs.flatMap encVar)) (by simp [oF]) d5 (by simp [h16])
  have o26 : Own 42 1 oneU8 w w0.heap.size (a.eval (.tmp 26)) ks := h.got (i := 9) (cs := [16]) (s := .row 42 1 ks.length (ks.flatMap oneU8)) (by simp [oF]) d9 (by simp [h16])
  have o30 : Own 38 4 encIns w w0.heap.size (a.eval (.tmp 30)) is := h.got (i := 13) (cs := [16]) (s := .row 38 4 is.length (is.flatMap encIns)) (by simp [oF]) d13 (by simp [h16])
  obtain ⟨A22, n22, c22, e22⟩ := o22.slice
  rw [e22] at o22
  obtain ⟨A26, n26, c26, e26⟩ := o26.slice
  rw [e26] at o26
  obtain ⟨A30, n30, c30, e30⟩ := o30.slice
  rw [e30] at o30
  have hr : (execOp a.eval oo14).run Try.prog w = .ok (.value (.agg #[.string nm, .slice A22 n22 c22, .slice A26 n26 c26, .slice A30 n30 c30])) w := by
    simp only [execOp, oo14, List.map_toArray, List.map_cons, List.map_nil, e18, e22, e26, e30]
    go_simp
  refine wpOp_of (o := oo14) rfl rfl ?_
  unfold Oper.wp
  rw [hr]
  have hm : OMade w0.heap.size nm xs ks is w (.agg #[.string nm, .slice A22 n22 c22, .slice A26 n26 c26, .slice A30 n30 c30]) := ⟨_, _, _, rfl, o22, o26, o30⟩
  exact h.put 14 31 _ none (Nat.le_refl _) (oF_fine _ _ _ _ _ _ _ _ _ _ _ _) hb (.new (Below.refl _ _)) rfl rfl rfl (by decide) (by simp [oD, d5, d9, d13]) (by simpa [oF, Spec.holds] using hm)
def oo15 : Oper := { dst := some 7, op := Go.Op.alloc 32, type := 0, pos := "outright.go:73", after := #[], guard := none }
theorem ostep15 (_ : OCtx bc nm A1 A2 A3 c1 c2 c3 xs ks is w0) : OStep x0 x1 x2 x4 x5 x6 x8 x9 x10 x11 x12 x13 x14 x15 x16 bc nm A1 A2 A3 c1 c2 c3 xs ks is w0 Q 15 := by
  intro b a w h hb hdep
  have h16 : b 16 = false := by
    cases e : b 16 with
    | false => rfl
    | true =>
      have := h.dep (16, 15) (by simp [oD]) e
      rw [hb] at this; cases this
  have hr : (execOp a.eval oo15).run Try.prog w = .ok (.value (.pointer (some ⟨w.heap.size, 0, none⟩))) (w.alloc (.cells #[.string ⟨#[]⟩, .slice none 0 0, .slice none 0 0, .slice none 0 0] 32)) := by
    simp only [execOp, oo15]
    go_simp
  refine wpOp_of (o := oo15) rfl rfl ?_
  unfold Oper.wp
  rw [hr]
  have hn : ∃ g, Value.pointer (some ⟨w.heap.size, 0, none⟩) = .pointer (some ⟨g, 0, none⟩) ∧ w0.heap.size ≤ g ∧ (w.alloc (.cells #[.string ⟨#[]⟩, .slice none 0 0, .slice none 0 0, .slice none 0 0] 32)).heap[g]? = some (.cells #[.string ⟨#[]⟩, .slice none 0 0, .slice none 0 0, .slice none 0 0] 32 (0, 0)) := ⟨_, rfl, h.bel.size, heap_alloc_new w _⟩
  exact h.put 15 7 _ none (Nat.le_refl _) (oF_fine _ _ _ _ _ _ _ _ _ _ _ _) hb (.new ((Below.refl _ _).alloc (Nat.le_refl _) _)) rfl rfl rfl (by decide) (by simp [oD]) (by simpa [oF, Spec.holds] using hn)
def oo16 : Oper := { dst := none, op := Go.Op.store 32 (Go.Operand.tmp 7) (Go.Operand.tmp 31), type := 0, pos := "outright.go:73", after := #[{ on := 15, ground := Go.Ground.data }, { on := 14, ground := Go.Ground.data }, { on := 13, ground := Go.Ground.chain }, { on := 0, ground := Go.Ground.phase }, { on := 1, ground := Go.Ground.phase }, { on := 2, ground := Go.Ground.phase }, { on := 3, ground := Go.Ground.phase }, { on := 4, ground := Go.Ground.phase }, { on := 5, ground := Go.Ground.phase }, { on := 6, ground := Go.Ground.phase }, { on := 7, ground := Go.Ground.phase }, { on := 8, ground := Go.Ground.phase }, { on := 9, ground := Go.Ground.phase }, { on := 10, ground := Go.Ground.phase }, { on := 11, ground := Go.Ground.phase }, { on := 12, ground := Go.Ground.phase }, { on := 13, ground := Go.Ground.phase }, { on := 14, ground := Go.Ground.phase }, { on := 15, ground := Go.Ground.phase }], guard := none }
theorem ostep16 (_ : OCtx bc nm A1 A2 A3 c1 c2 c3 xs ks is w0) : OStep x0 x1 x2 x4 x5 x6 x8 x9 x10 x11 x12 x13 x14 x15 x16 bc nm A1 A2 A3 c1 c2 c3 xs ks is w0 Q 16 := by
  intro b a w h hb hdep
  have d15 : b 15 = true := hdep oo16 rfl { on := 15, ground := .data } (by simp [oo16]) rfl
  have d14 : b 14 = true := hdep oo16 rfl { on := 14, ground := .data } (by simp [oo16]) rfl
  have d13 : b 13 = true := hdep oo16 rfl { on := 13, ground := .chain } (by simp [oo16]) rfl
  have d0 : b 0 = true := hdep oo16 rfl { on := 0, ground := .phase } (by simp [oo16]) rfl
  have d1 : b 1 = true := hdep oo16 rfl { on := 1, ground := .phase } (by simp [oo16]) rfl
  have d2 : b 2 = true := hdep oo16 rfl { on := 2, ground := .phase } (by simp [oo16]) rfl
  have d3 : b 3 = true := hdep oo16 rfl { on := 3, ground := .phase } (by simp [oo16]) rfl
  have d4 : b 4 = true := hdep oo16 rfl { on := 4, ground := .phase } (by simp [oo16]) rfl
  have d5 : b 5 = true := hdep oo16 rfl { on := 5, ground := .phase } (by simp [oo16]) rfl
  have d6 : b 6 = true := hdep oo16 rfl { on := 6, ground := .phase } (by simp [oo16]) rfl
  have d7 : b 7 = true := hdep oo16 rfl { on := 7, ground := .phase } (by simp [oo16]) rfl
  have d8 : b 8 = true := hdep oo16 rfl { on := 8, ground := .phase } (by simp [oo16]) rfl
  have d9 : b 9 = true := hdep oo16 rfl { on := 9, ground := .phase } (by simp [oo16]) rfl
  have d10 : b 10 = true := hdep oo16 rfl { on := 10, ground := .phase } (by simp [oo16]) rfl
  have d11 : b 11 = true := hdep oo16 rfl { on := 11, ground := .phase } (by simp [oo16]) rfl
  have d12 : b 12 = true := hdep oo16 rfl { on := 12, ground := .phase } (by simp [oo16]) rfl
  have h16 := hb
  obtain ⟨g, e7, hg, hblk⟩ : ∃ g, a.eval (.tmp 7) = .pointer (some ⟨g, 0, none⟩) ∧ w0.heap.size ≤ g ∧ w.heap[g]? = some (.cells #[.string ⟨#[]⟩, .slice none 0 0, .slice none 0 0, .slice none 0 0] 32 (0, 0)) := h.got (i := 15) (cs := [16]) (s := .box 32 #[.string ⟨#[]⟩, .slice none 0 0, .slice none 0 0, .slice none 0 0]) (by simp [oF]) d15 (by simp [h16])
  obtain ⟨v1, v2, v3, e31, p1, p2, p3⟩ : OMade w0.heap.size nm xs ks is w (a.eval (.tmp 31)) := h.got (i := 14) (cs := [16]) (s := .pred (OMade w0.heap.size nm xs ks is)) (by simp [oF]) d14 (by simp [h16])
  obtain ⟨B1, n1, k1, rfl⟩ := p1.slice
  obtain ⟨B2, n2, k2, rfl⟩ := p2.slice
  obtain ⟨B3, n3, k3, rfl⟩ := p3.slice
  have f0 : ∀ j, w.frozen? ⟨g, j, none⟩ = false := fun j => frozen_of_row w g j _ _ hblk
  have z0 : w.cell? ⟨g, 0, none⟩ = some (.string ⟨#[]⟩) := by rw [cell_of_row _ _ 0 _ _ _ hblk]; rfl
  have z1 : w.cell? ⟨g, 1, none⟩ = some (.slice none 0 0) := by rw [cell_of_row _ _ 1 _ _ _ hblk]; rfl
  have z2 : w.cell? ⟨g, 2, none⟩ = some (.slice none 0 0) := by rw [cell_of_row _ _ 2 _ _ _ hblk]; rfl
  have z3 : w.cell? ⟨g, 3, none⟩ = some (.slice none 0 0) := by rw [cell_of_row _ _ 3 _ _ _ hblk]; rfl
  have f0' := f0 0
  have f1' := f0 1
  have f2' := f0 2
  have f3' := f0 3
  have hr : (execOp a.eval oo16).run Try.prog w = .ok .skip (((((w).setCell ⟨g, 0, none⟩ (.string nm)).setCell ⟨g, 1, none⟩ (.slice B1 n1 k1)).setCell ⟨g, 2, none⟩ (.slice B2 n2 k2)).setCell ⟨g, 3, none⟩ (.slice B3 n3 k3)) := by
    simp only [execOp, oo16, e7, e31]
    go_simp
  refine wpOp_of (o := oo16) rfl rfl ?_
  unfold Oper.wp
  rw [hr]
  have hbel := (((h.bel.setCell (p := ⟨g, 0, none⟩) hg (.string nm)).setCell (p := ⟨g, 1, none⟩) hg (.slice B1 n1 k1)).setCell (p := ⟨g, 2, none⟩) hg (.slice B2 n2 k2)).setCell (p := ⟨g, 3, none⟩) hg (.slice B3 n3 k3)
  have b0 := set4_0 (u := .string nm) hblk
  have b1 := set4_1 (u := .slice B1 n1 k1) b0
  have b2 := set4_2 (u := .slice B2 n2 k2) b1
  have b3 := set4_3 (u := .slice B3 n3 k3) b2
  have p1' := (((p1.set hblk (by decide) 0 (.string nm)).set b0 (by decide) 1 (.slice B1 n1 k1)).set b1 (by decide) 2 (.slice B2 n2 k2)).set b2 (by decide) 3 (.slice B3 n3 k3)
  have p2' := (((p2.set hblk (by decide) 0 (.string nm)).set b0 (by decide) 1 (.slice B1 n1 k1)).set b1 (by decide) 2 (.slice B2 n2 k2)).set b2 (by decide) 3 (.slice B3 n3 k3)
  have p3' := (((p3.set hblk (by decide) 0 (.string nm)).set b0 (by decide) 1 (.slice B1 n1 k1)).set b1 (by decide) 2 (.slice B2 n2 k2)).set b2 (by decide) 3 (.slice B3 n3 k3)
  have hm : ODone w0.heap.size nm xs ks is (((((w).setCell ⟨g, 0, none⟩ (.string nm)).setCell ⟨g, 1, none⟩ (.slice B1 n1 k1)).setCell ⟨g, 2, none⟩ (.slice B2 n2 k2)).setCell ⟨g, 3, none⟩ (.slice B3 n3 k3)) (a.eval (.tmp 7)) := ⟨g, _, _, _, e7, hg, b3, p1', p2', p3'⟩
  exact h.fin 16 hbel rfl (by simp [oD, d0, d1, d2, d3, d4, d5, d6, d7, d8, d9, d10, d11, d12, d13, d14, d15]) (by simpa [oF, Spec.holds] using hm)
theorem odd_hac : ∀ i o, oOps[i]? = some o → ∀ e ∈ o.after, Region.binds .any e = true → e.on < i := by
  have h : ((List.range oOps.size).all fun i => match oOps[i]? with | some o => o.after.all fun e => decide (e.on < i) | none => true) = true := by decide +kernel
  intro i o ho e he _
  have hi : i < oOps.size := (Array.getElem?_eq_some_iff.1 ho).1
  have h1 := List.all_eq_true.1 h i (List.mem_range.2 hi)
  rw [ho] at h1
  exact of_decide_eq_true (Array.all_eq_true_iff_forall_mem.1 h1 e he)
set_option maxHeartbeats 1000000 in
set_option maxRecDepth 100000 in
theorem odd_region (C : OCtx bc nm A1 A2 A3 c1 c2 c3 xs ks is w0) (cont : ∀ (u17 u18 u19 u20 u21 u22 u23 u24 u25 u26 u27 u28 u29 u30 u31 : Value) (g : Nat) (v1 v2 v3 : Value) (w : World), w0.heap.size ≤ g → w.heap[g]? = some (.cells #[.string nm, v1, v2, v3] 32 (0, 0)) → Own 41 4 encVar w w0.heap.size v1 xs → Own 42 1 oneU8 w w0.heap.size v2 ks → Own 38 4 encIns w w0.heap.size v3 is → Below w0.heap.size w0 w → Q .normal ⟨#[x0, x1, x2, .pointer (some ⟨bc, 0, none⟩), x4, x5, x6, .pointer (some ⟨g, 0, none⟩), x8, x9, x10, x11, x12, x13, x14, x15, x16, u17, u18, u19, u20, u21, u22, u23, u24, u25, u26, u27, u28, u29, u30, u31, undef, undef, undef, undef, undef, undef, undef, undef, undef, undef, undef, undef, undef, undef, undef, undef, undef, undef, undef, undef, undef, undef, undef, undef, undef, undef, undef, undef, undef, undef, undef, undef, undef, undef, undef, undef, undef, undef, undef, undef, undef, undef, undef, undef, undef, undef, undef, undef, undef, undef, undef, undef, undef, undef, undef, undef, undef, undef, undef, undef, undef, undef], []⟩ w) :
    (Code.region 3 oOps true).wp Try.prog Q ⟨#[x0, x1, x2, .pointer (some ⟨bc, 0, none⟩), x4, x5, x6, undef, x8, x9, x10, x11, x12, x13, x14, x15, x16, undef, undef, undef, undef, undef, undef, undef, undef, undef, undef, undef, undef, undef, undef, undef, undef, undef, undef, undef, undef, undef, undef, undef, undef, undef, undef, undef, undef, undef, undef, undef, undef, undef, undef, undef, undef, undef, undef, undef, undef, undef, undef, undef, undef, undef, undef, undef, undef, undef, undef, undef, undef, undef, undef, undef, undef, undef, undef, undef, undef, undef, undef, undef, undef, undef, undef, undef, undef, undef, undef, undef, undef, undef, undef, undef, undef, undef], []⟩ w0 := by
  refine wp_region_inv (ops := oOps) (by kernel_rfl) odd_hac (OSt x0 x1 x2 x4 x5 x6 x8 x9 x10 x11 x12 x13 x14 x15 x16 bc nm A1 A2 A3 c1 c2 c3 xs ks is w0) ?_ ?_ ?_
  · exact { defers := rfl, size := rfl, fixed := by simp [oFix, Act.eval], bel := (Below.refl _ _).drew, f := (fun _ _ h => by cases h), dep := (fun _ _ h => by cases h) }
  · intro i hi
    change i < 17 at hi
    match i, hi with
    | 0, _ => exact ostep0 C
    | 1, _ => exact ostep1 C
    | 2, _ => exact ostep2 C
    | 3, _ => exact ostep3 C
    | 4, _ => exact ostep4 C
    | 5, _ => exact ostep5 C
    | 6, _ => exact ostep6 C
    | 7, _ => exact ostep7 C
    | 8, _ => exact ostep8 C
    | 9, _ => exact ostep9 C
    | 10, _ => exact ostep10 C
    | 11, _ => exact ostep11 C
    | 12, _ => exact ostep12 C
    | 13, _ => exact ostep13 C
    | 14, _ => exact ostep14 C
    | 15, _ => exact ostep15 C
    | 16, _ => exact ostep16 C
    | n + 17, hi => exact absurd hi (by omega)
  · intro b a w hall h
    obtain ⟨g, v1, v2, v3, e7, hg, hblk, p1, p2, p3⟩ : ODone w0.heap.size nm xs ks is w (a.eval (.tmp 7)) := h.got (i := 16) (cs := []) (s := .pred (ODone w0.heap.size nm xs ks is)) (by simp [oF]) (hall 16 (by decide)) (by simp)
    have e0 : a.eval (.tmp 0) = x0 := h.fixed (0, x0) (by simp [oFix])
    have e1 : a.eval (.tmp 1) = x1 := h.fixed (1, x1) (by simp [oFix])
    have e2 : a.eval (.tmp 2) = x2 := h.fixed (2, x2) (by simp [oFix])
    have e3 : a.eval (.tmp 3) = .pointer (some ⟨bc, 0, none⟩) := h.fixed (3, .pointer (some ⟨bc, 0, none⟩)) (by simp [oFix])
    have e4 : a.eval (.tmp 4) = x4 := h.fixed (4, x4) (by simp [oFix])
    have e5 : a.eval (.tmp 5) = x5 := h.fixed (5, x5) (by simp [oFix])
    have e6 : a.eval (.tmp 6) = x6 := h.fixed (6, x6) (by simp [oFix])
    have e8 : a.eval (.tmp 8) = x8 := h.fixed (8, x8) (by simp [oFix])
    have e9 : a.eval (.tmp 9) = x9 := h.fixed (9, x9) (by simp [oFix])
    have e10 : a.eval (.tmp 10) = x10 := h.fixed (10, x10) (by simp [oFix])
    have e11 : a.eval (.tmp 11) = x11 := h.fixed (11, x11) (by simp [oFix])
    have e12 : a.eval (.tmp 12) = x12 := h.fixed (12, x12) (by simp [oFix])
    have e13 : a.eval (.tmp 13) = x13 := h.fixed (13, x13) (by simp [oFix])
    have e14 : a.eval (.tmp 14) = x14 := h.fixed (14, x14) (by simp [oFix])
    have e15 : a.eval (.tmp 15) = x15 := h.fixed (15, x15) (by simp [oFix])
    have e16 : a.eval (.tmp 16) = x16 := h.fixed (16, x16) (by simp [oFix])
    have e32 : a.eval (.tmp 32) = undef := h.fixed (32, undef) (by simp [oFix])
    have e33 : a.eval (.tmp 33) = undef := h.fixed (33, undef) (by simp [oFix])
    have e34 : a.eval (.tmp 34) = undef := h.fixed (34, undef) (by simp [oFix])
    have e35 : a.eval (.tmp 35) = undef := h.fixed (35, undef) (by simp [oFix])
    have e36 : a.eval (.tmp 36) = undef := h.fixed (36, undef) (by simp [oFix])
    have e37 : a.eval (.tmp 37) = undef := h.fixed (37, undef) (by simp [oFix])
    have e38 : a.eval (.tmp 38) = undef := h.fixed (38, undef) (by simp [oFix])
    have e39 : a.eval (.tmp 39) = undef := h.fixed (39, undef) (by simp [oFix])
    have e40 : a.eval (.tmp 40) = undef := h.fixed (40, undef) (by simp [oFix])
    have e41 : a.eval (.tmp 41) = undef := h.fixed (41, undef) (by simp [oFix])
    have e42 : a.eval (.tmp 42) = undef := h.fixed (42, undef) (by simp [oFix])
    have e43 : a.eval (.tmp 43) = undef := h.fixed (43, undef) (by simp [oFix])
    have e44 : a.eval (.tmp 44) = undef := h.fixed (44, undef) (by simp [oFix])
    have e45 : a.eval (.tmp 45) = undef := h.fixed (45, undef) (by simp [oFix])
    have e46 : a.eval (.tmp 46) = undef := h.fixed (46, undef) (by simp [oFix])
    have e47 : a.eval (.tmp 47) = undef := h.fixed (47, undef) (by simp [oFix])
    have e48 : a.eval (.tmp 48) = undef := h.fixed (48, undef) (by simp [oFix])
    have e49 : a.eval (.tmp 49) = undef := h.fixed (49, undef) (by simp [oFix])
    have e50 : a.eval (.tmp 50) = undef := h.fixed (50, undef) (by simp [oFix])
    have e51 : a.eval (.tmp 51) = undef := h.fixed (51, undef) (by simp [oFix])
    have e52 : a.eval (.tmp 52) = undef := h.fixed (52, undef) (by simp [oFix])
    have e53 : a.eval (.tmp 53) = undef := h.fixed (53, undef) (by simp [oFix])
    have e54 : a.eval (.tmp 54) = undef := h.fixed (54, undef) (by simp [oFix])
    have e55 : a.eval (.tmp 55) = undef := h.fixed (55, undef) (by simp [oFix])
    have e56 : a.eval (.tmp 56) = undef := h.fixed (56, undef) (by simp [oFix])
    have e57 : a.eval (.tmp 57) = undef := h.fixed (57, undef) (by simp [oFix])
    have e58 : a.eval (.tmp 58) = undef := h.fixed (58, undef) (by simp [oFix])
    have e59 : a.eval (.tmp 59) = undef := h.fixed (59, undef) (by simp [oFix])
    have e60 : a.eval (.tmp 60) = undef := h.fixed (60, undef) (by simp [oFix])
    have e61 : a.eval (.tmp 61) = undef := h.fixed (61, undef) (by simp [oFix])
    have e62 : a.eval (.tmp 62) = undef := h.fixed (62, undef) (by simp [oFix])
    have e63 : a.eval (.tmp 63) = undef := h.fixed (63, undef) (by simp [oFix])
    have e64 : a.eval (.tmp 64) = undef := h.fixed (64, undef) (by simp [oFix])
    have e65 : a.eval (.tmp 65) = undef := h.fixed (65, undef) (by simp [oFix])
    have e66 : a.eval (.tmp 66) = undef := h.fixed (66, undef) (by simp [oFix])
    have e67 : a.eval (.tmp 67) = undef := h.fixed (67, undef) (by simp [oFix])
    have e68 : a.eval (.tmp 68) = undef := h.fixed (68, undef) (by simp [oFix])
    have e69 : a.eval (.tmp 69) = undef := h.fixed (69, undef) (by simp [oFix])
    have e70 : a.eval (.tmp 70) = undef := h.fixed (70, undef) (by simp [oFix])
    have e71 : a.eval (.tmp 71) = undef := h.fixed (71, undef) (by simp [oFix])
    have e72 : a.eval (.tmp 72) = undef := h.fixed (72, undef) (by simp [oFix])
    have e73 : a.eval (.tmp 73) = undef := h.fixed (73, undef) (by simp [oFix])
    have e74 : a.eval (.tmp 74) = undef := h.fixed (74, undef) (by simp [oFix])
    have e75 : a.eval (.tmp 75) = undef := h.fixed (75, undef) (by simp [oFix])
    have e76 : a.eval (.tmp 76) = undef := h.fixed (76, undef) (by simp [oFix])
    have e77 : a.eval (.tmp 77) = undef := h.fixed (77, undef) (by simp [oFix])
    have e78 : a.eval (.tmp 78) = undef := h.fixed (78, undef) (by simp [oFix])
    have e79 : a.eval (.tmp 79) = undef := h.fixed (79, undef) (by simp [oFix])
    have e80 : a.eval (.tmp 80) = undef := h.fixed (80, undef) (by simp [oFix])
    have e81 : a.eval (.tmp 81) = undef := h.fixed (81, undef) (by simp [oFix])
    have e82 : a.eval (.tmp 82) = undef := h.fixed (82, undef) (by simp [oFix])
    have e83 : a.eval (.tmp 83) = undef := h.fixed (83, undef) (by simp [oFix])
    have e84 : a.eval (.tmp 84) = undef := h.fixed (84, undef) (by simp [oFix])
    have e85 : a.eval (.tmp 85) = undef := h.fixed (85, undef) (by simp [oFix])
    have e86 : a.eval (.tmp 86) = undef := h.fixed (86, undef) (by simp [oFix])
    have e87 : a.eval (.tmp 87) = undef := h.fixed (87, undef) (by simp [oFix])
    have e88 : a.eval (.tmp 88) = undef := h.fixed (88, undef) (by simp [oFix])
    have e89 : a.eval (.tmp 89) = undef := h.fixed (89, undef) (by simp [oFix])
    have e90 : a.eval (.tmp 90) = undef := h.fixed (90, undef) (by simp [oFix])
    have e91 : a.eval (.tmp 91) = undef := h.fixed (91, undef) (by simp [oFix])
    have e92 : a.eval (.tmp 92) = undef := h.fixed (92, undef) (by simp [oFix])
    have e93 : a.eval (.tmp 93) = undef := h.fixed (93, undef) (by simp [oFix])
    have h1 := arr_lits a.tmps 94 h.size
    have h2 : ((List.range 94).map fun i => a.tmps.getD i undef) = [a.eval (.tmp 0), a.eval (.tmp 1), a.eval (.tmp 2), a.eval (.tmp 3), a.eval (.tmp 4), a.eval (.tmp 5), a.eval (.tmp 6), a.eval (.tmp 7), a.eval (.tmp 8), a.eval (.tmp 9), a.eval (.tmp 10), a.eval (.tmp 11), a.eval (.tmp 12), a.eval (.tmp 13), a.eval (.tmp 14), a.eval (.tmp 15), a.eval (.tmp 16), a.eval (.tmp 17), a.eval (.tmp 18), a.eval (.tmp 19), a.eval (.tmp 20), a.eval (.tmp 21), a.eval (.tmp 22), a.eval (.tmp 23), a.eval (.tmp 24), a.eval (.tmp 25), a.eval (.tmp 26), a.eval (.tmp 27), a.eval (.tmp 28), a.eval (.tmp 29), a.eval (.tmp 30), a.eval (.tmp 31), a.eval (.tmp 32), a.eval (.tmp 33), a.eval (.tmp 34), a.eval (.tmp 35), a.eval (.tmp 36), a.eval (.tmp 37), a.eval (.tmp 38), a.eval (.tmp 39), a.eval (.tmp 40), a.eval (.tmp 41), a.eval (.tmp 42), a.eval (.tmp 43), a.eval (.tmp 44), a.eval (.tmp 45), a.eval (.tmp 46), a.eval (.tmp 47), a.eval (.tmp 48), a.eval (.tmp 49), a.eval (.tmp 50), a.eval (.tmp 51), a.eval (.tmp 52), a.eval (.tmp 53), a.eval (.tmp 54), a.eval (.tmp 55), a.eval (.tmp 56), a.eval (.tmp 57), a.eval (.tmp 58), a.eval (.tmp 59), a.eval (.tmp 60), a.eval (.tmp 61), a.eval (.tmp 62), a.eval (.tmp 63), a.eval (.tmp 64), a.eval (.tmp 65), a.eval (.tmp 66), a.eval (.tmp 67), a.eval (.tmp 68), a.eval (.tmp 69), a.eval (.tmp 70), a.eval (.tmp 71), a.eval (.tmp 72), a.eval (.tmp 73), a.eval (.tmp 74), a.eval (.tmp 75), a.eval (.tmp 76), a.eval (.tmp 77), a.eval (.tmp 78), a.eval (.tmp 79), a.eval (.tmp 80), a.eval (.tmp 81), a.eval (.tmp 82), a.eval (.tmp 83), a.eval (.tmp 84), a.eval (.tmp 85), a.eval (.tmp 86), a.eval (.tmp 87), a.eval (.tmp 88), a.eval (.tmp 89), a.eval (.tmp 90), a.eval (.tmp 91), a.eval (.tmp 92), a.eval (.tmp 93)] := rfl
    rw [h2, e7, e0, e1, e2, e3, e4, e5, e6, e8, e9, e10, e11, e12, e13, e14, e15, e16, e32, e33, e34, e35, e36, e37, e38, e39, e40, e41, e42, e43, e44, e45, e46, e47, e48, e49, e50, e51, e52, e53, e54, e55, e56, e57, e58, e59, e60, e61, e62, e63, e64, e65, e66, e67, e68, e69, e70, e71, e72, e73, e74, e75, e76, e77, e78, e79, e80, e81, e82, e83, e84, e85, e86, e87, e88, e89, e90, e91, e92, e93] at h1
    have hd := h.defers
    have hbel := h.bel
    clear h2 h
    obtain ⟨tm, df⟩ := a
    simp only at h1 hd
    subst hd
    generalize Act.eval ⟨tm, []⟩ (.tmp 17) = u17, Act.eval ⟨tm, []⟩ (.tmp 18) = u18, Act.eval ⟨tm, []⟩ (.tmp 19) = u19, Act.eval ⟨tm, []⟩ (.tmp 20) = u20, Act.eval ⟨tm, []⟩ (.tmp 21) = u21, Act.eval ⟨tm, []⟩ (.tmp 22) = u22, Act.eval ⟨tm, []⟩ (.tmp 23) = u23, Act.eval ⟨tm, []⟩ (.tmp 24) = u24, Act.eval ⟨tm, []⟩ (.tmp 25) = u25, Act.eval ⟨tm, []⟩ (.tmp 26) = u26, Act.eval ⟨tm, []⟩ (.tmp 27) = u27, Act.eval ⟨tm, []⟩ (.tmp 28) = u28, Act.eval ⟨tm, []⟩ (.tmp 29) = u29, Act.eval ⟨tm, []⟩ (.tmp 30) = u30, Act.eval ⟨tm, []⟩ (.tmp 31) = u31 at h1
    subst h1
    exact cont _ _ _ _ _ _ _ _ _ _ _ _ _ _ _ g v1 v2 v3 w hg hblk p1 p2 p3 hbel
end
end Go.Proofs.Ythiapebodpkamaa
