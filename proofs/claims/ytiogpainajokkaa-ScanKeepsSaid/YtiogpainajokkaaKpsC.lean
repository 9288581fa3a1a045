/- blockhouselaw16.ScanKeeps's closure answers true of what it is told. -/
import Derived.Test.YtiogpainajokkaaPlyM
import Derived.Test.YtiogpainajokkaaSamP
namespace Go.Proofs.Ytiogpainajokkaa
open Go.RowKit
set_option maxHeartbeats 4000000 in
set_option maxRecDepth 100000 in
theorem cloK_any (c : GCode) (hw : c.Wf) (hn : (c.ins.length : Int) < 9223372036854775807) (vs bs is : Value) (w : World) (X qm qo : Nat) (h : CodeRd w c vs bs is) (h0 : (spotsB c).2.2 = 0)
    (hX : w.heap[X]? = some (.cells #[.string c.name, vs, bs, is] 26 (0, 0))) (hm : w.cell? ⟨qm, 0, none⟩ = some (.int .i64 (stepsB c))) (ho : w.cell? ⟨qo, 0, none⟩ = some (.int .i64 (clsN 2 c.vars : Int)))
    (W : World) (s s' : GPlant) (ins out : List Int) (n : Nat) (now e : Int) (V B V' B' I O : Value) (ht : Told w W c s s' ins out n now e V B V' B' I O) :
    Calls Try.prog 23 #[.agg #[V, B], .agg #[V', B'], I, O, .int .i64 n, .int .i64 now, .int .i64 e, .pointer (some ⟨X, 0, none⟩), .pointer (some ⟨qm, 0, none⟩), .pointer (some ⟨qo, 0, none⟩)] W fun e w' => e = .returned (.bool true) ∧ Below W.heap.size W w' := by
  obtain ⟨A1, c1, rfl⟩ : ∃ A c', vs = .slice A c.vars.length c' := by obtain ⟨_, A, c', h, _⟩ := h.vars; exact ⟨A, c', h⟩
  obtain ⟨A2, c2, rfl⟩ : ∃ A c', bs = .slice A c.blocks.length c' := by obtain ⟨_, A, c', h, _⟩ := h.blocks; exact ⟨A, c', h⟩
  obtain ⟨A3, c3, rfl⟩ : ∃ A c', is = .slice A c.ins.length c' := by obtain ⟨_, A, c', h, _⟩ := h.ins; exact ⟨A, c', h⟩
  have hrs := ht.rs
  have hrt := ht.rt
  have hro := ht.ro
  have hri := ht.ri
  have SP : Fact (∀ (_ : s' = s) W2 (_ : Below W.heap.size W W2), Calls Try.prog 17 #[.agg #[V, B], .agg #[V', B']] W2 fun e w' => e = .returned (.bool true) ∧ Below W2.heap.size W2 w') := ⟨fun e W2 hb => psame_any s _ _ _ _ W2 (hrs.below hb) (by have := hrt.below hb; rw [e] at this; exact this)⟩
  obtain ⟨AV, cV, rfl⟩ : ∃ A c', V = .slice A s.vars.length c' := by obtain ⟨_, A, c', h, _⟩ := hrs.v; exact ⟨A, c', h⟩
  obtain ⟨AB, cB, rfl⟩ : ∃ A c', B = .slice A s.blocks.length c' := by obtain ⟨_, A, c', h, _⟩ := hrs.b; exact ⟨A, c', h⟩
  obtain ⟨AV', cV', rfl⟩ : ∃ A c', V' = .slice A s'.vars.length c' := by obtain ⟨_, A, c', h, _⟩ := hrt.v; exact ⟨A, c', h⟩
  obtain ⟨AB', cB', rfl⟩ : ∃ A c', B' = .slice A s'.blocks.length c' := by obtain ⟨_, A, c', h, _⟩ := hrt.b; exact ⟨A, c', h⟩
  obtain ⟨AO, cO, rfl⟩ : ∃ A c', O = .slice A out.length c' := by obtain ⟨_, A, c', h, _⟩ := hro; exact ⟨A, c', h⟩
  obtain ⟨AI, cI, rfl⟩ : ∃ A c', I = .slice A ins.length c' := by obtain ⟨_, A, c', h, _⟩ := hri; exact ⟨A, c', h⟩
  obtain ⟨l, hl⟩ := ht.hin
  have hok := scan_ok h0 ht.fits l ht.n1 ht.n2
  rw [← hl, ht.scan] at hok
  have OK := Fact.mk hok
  obtain ⟨b2, r2, r3, z2⟩ := two_blocks W (.cells #[.slice AV s.vars.length cV, .slice AB s.blocks.length cB] 34) (.cells #[.slice AV' s'.vars.length cV', .slice AB' s'.blocks.length cB'] 34)
  have bW := ht.bel.trans (b2.mono ht.bel.size)
  have RG := Fact.mk (sright_any c hw hn s' _ _ _ _ _ _ (h.below bW) (hrt.below b2))
  have eR : rightS c s' = true := by unfold rightS; rw [decide_eq_true h0, hok.fits]; rfl
  rw [eR] at RG
  have kX := (bW.block X (Array.getElem?_eq_some_iff.1 hX).1).trans hX
  obtain ⟨k0, k1, k2, k3⟩ : _ ∧ _ ∧ _ ∧ _ := ⟨cell_of_row _ _ 0 _ _ _ kX, cell_of_row _ _ 1 _ _ _ kX, cell_of_row _ _ 2 _ _ _ kX, cell_of_row _ _ 3 _ _ _ kX⟩
  have lX := World.block_lt_of_cell? _ _ k0
  have cm := cell_below bW _ _ hm
  have co := cell_below bW _ _ ho
  have lm := World.block_lt_of_cell? _ _ cm
  have lo := World.block_lt_of_cell? _ _ co
  have B2 := Fact.mk b2
  have R2 := Fact.mk r2
  have R3 := Fact.mk r3
  have L2 : W.heap.size + 1 < ((W.alloc (.cells #[.slice AV s.vars.length cV, .slice AB s.blocks.length cB] 34)).alloc (.cells #[.slice AV' s'.vars.length cV', .slice AB' s'.blocks.length cB'] 34)).heap.size := by rw [z2]; omega
  have HM : Fact (ofB 2 c.vars s'.vars = out → out.length = clsN 2 c.vars) := ⟨fun he => by rw [← he]; exact ofB_cls 2 _ _ (fits_len hok.fits).1⟩
  clear hX hm ho ht hrs hrt hro hri hl hok b2 r2 r3 z2 bW eR kX h hw hn h0
  go_enter Try.func23, Try.ntmps23
  go_upto_region 1 with (fail)
  generalize (W.alloc (.cells #[.slice AV s.vars.length cV, .slice AB s.blocks.length cB] 34)).alloc (.cells #[.slice AV' s'.vars.length cV', .slice AB' s'.blocks.length cB'] 34) = w2 at *
  have u0 : w2.cell? ⟨W.heap.size, 0, none⟩ = some (.slice AV s.vars.length cV) := cell_of_row _ _ 0 _ _ _ R2.out
  have u1 : w2.cell? ⟨W.heap.size, 1, none⟩ = some (.slice AB s.blocks.length cB) := cell_of_row _ _ 1 _ _ _ R2.out
  have v0 : w2.cell? ⟨W.heap.size + 1, 0, none⟩ = some (.slice AV' s'.vars.length cV') := cell_of_row _ _ 0 _ _ _ R3.out
  have v1 : w2.cell? ⟨W.heap.size + 1, 1, none⟩ = some (.slice AB' s'.blocks.length cB') := cell_of_row _ _ 1 _ _ _ R3.out
  have hg : decide (stepsB c < (n : Int)) = false := decide_eq_false (by have := OK.out.most; simp only at this; omega)
  generalize stepsB c = most at *
  rcases OK.out.err with he | ⟨he, hs, ho⟩
  · simp only at he
    subst he
    have hlen := HM.out (OK.out.outs rfl).symm
    have HLN := Fact.mk hlen
    rw [← hlen] at co
    clear hlen SP
    go_wp2_with fail
    refine RG.out.mono ?_
    rintro e W3 ⟨rfl, hb3⟩
    have B3 := Fact.mk (B2.out.trans (hb3.mono B2.out.size))
    replace cm := cell_below hb3 _ _ cm
    replace co := cell_below hb3 _ _ co
    replace lm := Nat.lt_of_lt_of_le lm hb3.size
    replace lo := Nat.lt_of_lt_of_le lo hb3.size
    clear hb3 B2 RG k0 k1 k2 k3 lX u0 u1 v0 v1 R2 R3
    go_wp2
    go_ret
    exact ⟨rfl, B3.out⟩
  · simp only at he hs ho
    subst he ho
    have SP2 := Fact.mk (SP.out hs)
    clear SP co lo hs
    go_wp2_with fail
    refine RG.out.mono ?_
    rintro e W3 ⟨rfl, hb3⟩
    have B3 := Fact.mk (B2.out.trans (hb3.mono B2.out.size))
    replace cm := cell_below hb3 _ _ cm
    replace lm := Nat.lt_of_lt_of_le lm hb3.size
    replace u0 := cell_below hb3 _ _ u0
    replace u1 := cell_below hb3 _ _ u1
    replace v0 := cell_below hb3 _ _ v0
    replace v1 := cell_below hb3 _ _ v1
    have l3 : W.heap.size + 1 < W3.heap.size := Nat.lt_of_lt_of_le L2 hb3.size
    clear hb3 B2 RG k0 k1 k2 k3 lX R2 R3 L2
    go_wp2_with fail
    refine (SP2.out _ B3.out).mono ?_
    rintro e W4 ⟨rfl, hb4⟩
    have B4 := Fact.mk (B3.out.trans (hb4.mono B3.out.size))
    clear hb4 B3 cm lm u0 u1 v0 v1
    go_wp2
    go_ret
    exact ⟨rfl, B4.out⟩
end Go.Proofs.Ytiogpainajokkaa

