/- The contract of code.Right. -/
import Derived.Test.YthiapebodpkamaaRightA
import Derived.Outline
namespace Go.Proofs.Ythiapebodpkamaa
open Go.RowKit Go.Shelf
def oddB (k : Int) : Bool := decide (k < 1) || decide (11 < k)
theorem odd_any (k : Int) (w : World) : Calls Try.prog 44 #[.int .u8 k] w fun e w' => e = .returned (.bool (oddB k)) ∧ w = w' := by
  unfold oddB
  go_enter Try.func44, Try.ntmps44
  go_wp2
  all_goals go_ret
  all_goals (refine ⟨ret_bool ?_, rfl⟩; first | (simp_all; done) | (simp_all; omega))
/-- A program's box: its four cells. -/
structure CodeBox (w : World) (c : GCode) (vs bs is : Value) (bc : Nat) : Prop where
  k0 : w.cell? ⟨bc, 0, none⟩ = some (.string c.name)
  k1 : w.cell? ⟨bc, 1, none⟩ = some vs
  k2 : w.cell? ⟨bc, 2, none⟩ = some bs
  k3 : w.cell? ⟨bc, 3, none⟩ = some is
theorem CodeBox.below {w w' : World} {c : GCode} {vs bs is : Value} {bc : Nat} (h : CodeBox w c vs bs is bc) (hb : Below w.heap.size w w') : CodeBox w' c vs bs is bc := ⟨cell_below hb _ _ h.k0, cell_below hb _ _ h.k1, cell_below hb _ _ h.k2, cell_below hb _ _ h.k3⟩
set_option maxHeartbeats 1000000 in
theorem unfit_any (c : GCode) (i : GIns) (vs bs is : Value) (bc : Nat) (w : World) (h : CodeRd w c vs bs is) (hw : i.Wf) (hn : (c.ins.length : Int) < 9223372036854775807) (hB : CodeBox w c vs bs is bc) :
    Calls Try.prog 47 #[.agg #[.int .u8 i.op, .int .u8 i.t, .int .i64 i.a, .int .i64 i.n], .pointer (some ⟨bc, 0, none⟩)] w fun e w' => e = .returned (.bool (!(fitsB c i))) ∧ Below w.heap.size w w' := by
  obtain ⟨k0, k1, k2, k3⟩ := hB
  have hb1 := (Below.refl w.heap.size w).alloc (Nat.le_refl _) (.cells #[.int .u8 i.op, .int .u8 i.t, .int .i64 i.a, .int .i64 i.n] 38)
  have h' := Fact.mk (h.below hb1)
  have j0 := cell_below hb1 _ _ k0
  have j1 := cell_below hb1 _ _ k1
  have j2 := cell_below hb1 _ _ k2
  have j3 := cell_below hb1 _ _ k3
  have HB := Fact.mk hb1
  clear h hb1 k0 k1 k2 k3
  go_enter Try.func47, Try.ntmps47
  go_wp2_with (go_at_call 48; refine (fits_any c i vs bs is _ h'.out hw hn).mono ?_; rintro e w' ⟨rfl, hb⟩)
  go_ret
  exact ⟨rfl, HB.out.trans (hb.mono HB.out.size)⟩
def namesRev (xs : List GVar) (j : Nat) : List ByteArray := ((xs.take j).map (·.name)).reverse
theorem namesRev_succ (xs : List GVar) (j : Nat) (h : j < xs.length) : namesRev xs (j + 1) = xs[j].name :: namesRev xs j := by
  unfold namesRev
  rw [List.take_succ_eq_append_getElem h, List.map_append, List.reverse_append]
  rfl
def varBad (xs : List GVar) (j : Nat) : Bool := match xs[j]? with | some v => wrongB (namesRev xs j) v | none => false
def blockBad (xs : List Int) (j : Nat) : Bool := match xs[j]? with | some k => oddB k | none => false
def insBad (c : GCode) (j : Nat) : Bool := match c.ins[j]? with | some i => !(fitsB c i) | none => false
def varsBad (c : GCode) : Bool := decide (0 ≤ idxFrom (varBad c.vars) c.vars.length 0)
def blocksBad (c : GCode) : Bool := decide (0 ≤ idxFrom (blockBad c.blocks) c.blocks.length 0)
def inssBad (c : GCode) : Bool := decide (0 ≤ idxFrom (insBad c) c.ins.length 0)
def rightB (c : GCode) : Bool := namedB c.name && decide (c.vars.length ≤ 200) && decide (c.blocks.length ≤ 100) && decide (1 ≤ c.ins.length) && decide (c.ins.length ≤ 2000) && !(varsBad c) && !(blocksBad c) && !(inssBad c)
/-- What holds in the world while Right runs. -/
structure RSt (w0 : World) (c : GCode) (vs bs is : Value) (bc : Nat) (W : World) : Prop where
  bel : Below w0.heap.size w0 W
  rd : CodeRd W c vs bs is
  box : CodeBox W c vs bs is bc
theorem RSt.below {w0 : World} {c : GCode} {vs bs is : Value} {bc : Nat} {W W' : World} (h : RSt w0 c vs bs is bc W) (hb : Below W.heap.size W W') : RSt w0 c vs bs is bc W' :=
  ⟨h.bel.trans (hb.mono h.bel.size), h.rd.below hb, h.box.below hb⟩
theorem vars_any (w0 : World) (c : GCode) (vs bs is : Value) (bc sb M : Nat) (w : World) (hw : c.Wf) (h : RSt w0 c vs bs is bc w) (hB0 : w0.heap.size ≤ M) (hs : w.cell? ⟨sb, 0, none⟩ = some (.map (some M))) (hm : MapFn mkStr w M (setFn [])) :
    Calls Try.prog 43 #[vs, .func (.func 39) #[] #[.pointer (some ⟨sb, 0, none⟩)]] w fun e w' => e = .returned (.bool (varsBad c)) ∧ RSt w0 c vs bs is bc w' := by
  have hmv : ∀ W W' : World, ∀ f, MapFn mkStr W M f → W.grownBy W' (some M) → ∀ a u, W.cell? a = some u → W'.cell? a = some u := fun W W' f hf hg a u hc => hg.cell hc (by
    have := isMap_ne hf hc
    intro e; injection e with e; exact this e)
  refine (conVar_any (fun j W => RSt w0 c vs bs is bc W ∧ W.cell? ⟨sb, 0, none⟩ = some (.map (some M)) ∧ MapFn mkStr W M (setFn (namesRev c.vars j))) (varBad c.vars) _ _ (enters_of Try.func39 (by kernel_rfl) rfl) vs c.vars w ⟨h, hs, hm⟩ (fun j W hI => hI.1.rd.vars) ?_).mono ?_
  · rintro j hj W ⟨h1, h2, h3⟩
    refine (wrong_any c.vars[j] (hw.vars _ (List.getElem_mem hj)) sb M _ W h2 h3).mono ?_
    rintro e w' ⟨rfl, h4, h5⟩
    have mv := hmv W w' _ h3 h5
    refine ⟨ret_bool (by simp [varBad, hj]), ⟨h1.bel.grown h5 h1.bel.size (fun k hk => by cases hk; exact hB0), ⟨h1.rd.vars.move mv, h1.rd.blocks.move mv, h1.rd.ins.move mv⟩, ⟨mv _ _ h1.box.k0, mv _ _ h1.box.k1, mv _ _ h1.box.k2, mv _ _ h1.box.k3⟩⟩, mv _ _ h2, ?_⟩
    rw [namesRev_succ _ _ hj]
    exact h4
  · rintro e w' ⟨rfl, j, h1, _⟩
    exact ⟨rfl, h1⟩
theorem blocks_any (w0 : World) (c : GCode) (vs bs is : Value) (bc : Nat) (w : World) (h : RSt w0 c vs bs is bc w) :
    Calls Try.prog 45 #[bs, .func (.func 44) #[] #[]] w fun e w' => e = .returned (.bool (blocksBad c)) ∧ RSt w0 c vs bs is bc w' := by
  refine (conBKind_any (fun _ W => RSt w0 c vs bs is bc W) (blockBad c.blocks) _ _ (enters_of Try.func44 (by kernel_rfl) rfl) bs c.blocks w h (fun j W hI => hI.rd.blocks) ?_).mono ?_
  · intro j hj W h1
    refine (odd_any c.blocks[j] W).mono ?_
    rintro e w' ⟨rfl, rfl⟩
    exact ⟨ret_bool (by simp [blockBad, hj]), h1⟩
  · rintro e w' ⟨rfl, j, h1⟩
    exact ⟨rfl, h1⟩
theorem inss_any (w0 : World) (c : GCode) (vs bs is : Value) (bc : Nat) (w : World) (hw : c.Wf) (hn : (c.ins.length : Int) < 9223372036854775807) (h : RSt w0 c vs bs is bc w) :
    Calls Try.prog 46 #[is, .func (.func 47) #[] #[.pointer (some ⟨bc, 0, none⟩)]] w fun e w' => e = .returned (.bool (inssBad c)) ∧ RSt w0 c vs bs is bc w' := by
  refine (conIns_any (fun _ W => RSt w0 c vs bs is bc W) (insBad c) _ _ (enters_of Try.func47 (by kernel_rfl) rfl) is c.ins w h (fun j W hI => hI.rd.ins) ?_).mono ?_
  · intro j hj W h1
    refine (unfit_any c c.ins[j] vs bs is bc W h1.rd (hw.ins _ (List.getElem_mem hj)) hn h1.box).mono ?_
    rintro e w' ⟨rfl, hb⟩
    exact ⟨ret_bool (by simp [insBad, hj]), h1.below hb⟩
  · rintro e w' ⟨rfl, j, h1⟩
    exact ⟨rfl, h1⟩
end Go.Proofs.Ythiapebodpkamaa

