/- blockhouselaw16.ScanRestarts's closure answers true of what it is told. -/
import Derived.Test.YtiogpainajokkaaPlyM
import Derived.Test.YtiogpainajokkaaSamP
import Derived.Test.YtiogpainajokkaaRsR
import Derived.Test.YtiogpainajokkaaGrt
namespace Go.Proofs.Ytiogpainajokkaa
open Go.RowKit
set_option maxHeartbeats 16000000 in
set_option maxRecDepth 100000 in
theorem cloR_any (c : GCode) (hw : c.Wf) (hn : (c.ins.length : Int) < 9223372036854775807) (vs bs is : Value) (w : World) (X P : Nat) (FV FB : Value) (h : CodeRd w c vs bs is) (h0 : (spotsB c).2.2 = 0)
    (hX : w.heap[X]? = some (.cells #[.string c.name, vs, bs, is] 26 (0, 0))) (hP : w.heap[P]? = some (.cells #[FV, FB] 34 (0, 0))) (hfr : PlRd w (firstB c) FV FB)
    (W : World) (s s' : GPlant) (ins out : List Int) (n : Nat) (now e : Int) (V B V' B' I O : Value) (ht : Told w W c s s' ins out n now e V B V' B' I O) :
    Calls Try.prog 25 #[.agg #[V, B], .agg #[V', B'], I, O, .int .i64 n, .int .i64 now, .int .i64 e, .pointer (some ⟨X, 0, none⟩), .pointer (some ⟨P, 0, none⟩)] W fun e w' => e = .returned (.bool true) ∧ Below W.heap.size W w' := by
  obtain ⟨AF, cF, rfl⟩ : ∃ A c', FV = .slice A (firstB c).vars.length c' := by obtain ⟨_, A, c', h, _⟩ := hfr.v; exact ⟨A, c', h⟩
  obtain ⟨AG, cG, rfl⟩ : ∃ A c', FB = .slice A (firstB c).blocks.length c' := by obtain ⟨_, A, c', h, _⟩ := hfr.b; exact ⟨A, c', h⟩
  obtain ⟨A1, c1, rfl⟩ : ∃ A c', vs = .slice A c.vars.length c' := by obtain ⟨_, A, c', h, _⟩ := h.vars; exact ⟨A, c', h⟩
  obtain ⟨A2, c2, rfl⟩ : ∃ A c', bs = .slice A c.blocks.length c' := by obtain ⟨_, A, c', h, _⟩ := h.blocks; exact ⟨A, c', h⟩
  obtain ⟨A3, c3, rfl⟩ : ∃ A c', is = .slice A c.ins.length c' := by obtain ⟨_, A, c', h, _⟩ := h.ins; exact ⟨A, c', h⟩
  have hrs := ht.rs
  have hrt := ht.rt
  have hro := ht.ro
  have hri := ht.ri
  obtain ⟨AV, cV, rfl⟩ : ∃ A c', V = .slice A s.vars.length c' := by obtain ⟨_, A, c', h, _⟩ := hrs.v; exact ⟨A, c', h⟩
  obtain ⟨AB, cB, rfl⟩ : ∃ A c', B = .slice A s.blocks.length c' := by obtain ⟨_, A, c', h, _⟩ := hrs.b; exact ⟨A, c', h⟩
  obtain ⟨AV', cV', rfl⟩ : ∃ A c', V' = .slice A s'.vars.length c' := by obtain ⟨_, A, c', h, _⟩ := hrt.v; exact ⟨A, c', h⟩
  obtain ⟨AB', cB', rfl⟩ : ∃ A c', B' = .slice A s'.blocks.length c' := by obtain ⟨_, A, c', h, _⟩ := hrt.b; exact ⟨A, c', h⟩
  obtain ⟨AO, cO, rfl⟩ : ∃ A c', O = .slice A out.length c' := by obtain ⟨_, A, c', h, _⟩ := hro; exact ⟨A, c', h⟩
  obtain ⟨AI, cI, rfl⟩ : ∃ A c', I = .slice A ins.length c' := by obtain ⟨_, A, c', h, _⟩ := hri; exact ⟨A, c', h⟩
  obtain ⟨l, hl⟩ := ht.hin
  have hok := scan_ok h0 ht.fits l ht.n1 ht.n2
  rw [← hl, ht.scan] at hok
  have OK := Fact.mk hok
  obtain ⟨b2, r2, r3, z2⟩ := two_blocks W (.cells #[.slice AV s.vars.length cV, .slice AB s.blocks.length cB] 34) (.cells #[.slice AV' s'.vars.length cV', .slice AB' s'.blocks.length cB'] 34)
  have bW := ht.bel.trans (b2.mono ht.bel.size)
  have kX := (bW.block X (Array.getElem?_eq_some_iff.1 hX).1).trans hX
  have KX := Fact.mk kX
  obtain ⟨k0, k1, k2, k3⟩ : _ ∧ _ ∧ _ ∧ _ := ⟨cell_of_row _ _ 0 _ _ _ kX, cell_of_row _ _ 1 _ _ _ kX, cell_of_row _ _ 2 _ _ _ kX, cell_of_row _ _ 3 _ _ _ kX⟩
  have lX := World.block_lt_of_cell? _ _ k0
  have B2 := Fact.mk b2
  have R2 := Fact.mk r2
  have R3 := Fact.mk r3
  have L2 : W.heap.size + 1 < ((W.alloc (.cells #[.slice AV s.vars.length cV, .slice AB s.blocks.length cB] 34)).alloc (.cells #[.slice AV' s'.vars.length cV', .slice AB' s'.blocks.length cB'] 34)).heap.size := by rw [z2]; omega
  obtain ⟨fv, fb⟩ : _ ∧ _ := ⟨cell_below bW _ _ (cell_of_row _ _ 0 _ _ _ hP), cell_below bW _ _ (cell_of_row _ _ 1 _ _ _ hP)⟩
  have lF := World.block_lt_of_cell? _ _ fv
  obtain ⟨rs1, rs2, rs3, rs4⟩ := rest_ok h0 hok.fits
  have KS := Fact.mk (fun W2 (hb : Below W.heap.size W W2) => skept_any c hw hn s' _ _ _ _ _ W2 ((h.below ht.bel).below hb) (hrt.below hb))
  have RSX := Fact.mk (fun W2 (hb : Below W.heap.size W W2) lv l (hl : Rd oneI64 1 W2 lv l) => srest_any c hw hn l _ _ _ lv W2 ((h.below ht.bel).below hb) hl)
  have RG := Fact.mk (fun W2 (hb : Below W.heap.size W W2) V2 B2 (hp : PlRd W2 ⟨mixB c.vars (firstB c).vars s'.vars, (firstB c).blocks⟩ V2 B2) => sright_any c hw hn _ _ _ _ V2 B2 W2 ((h.below ht.bel).below hb) hp)
  have KT := Fact.mk (fun W2 (hb : Below W.heap.size W W2) V2 B2 (hp : PlRd W2 ⟨mixB c.vars (firstB c).vars s'.vars, (firstB c).blocks⟩ V2 B2) => skept_any c hw hn _ _ _ _ V2 B2 W2 ((h.below ht.bel).below hb) hp)
  have eR : rightS c ⟨mixB c.vars (firstB c).vars s'.vars, (firstB c).blocks⟩ = true := by unfold rightS; rw [decide_eq_true h0, rs2]; rfl
  rw [eR] at RG
  rw [rs3] at KT
  have hlen := fits_len hok.fits
  have hlf := fits_len (first_fits h0)
  have hlm := mixB_len c.vars (firstB c).vars s'.vars hlf.1 hlen.1
  have hat := mixB_at c.vars (firstB c).vars s'.vars
  have hkl : (keptB c s').length ≤ 100000 := by
    have hr := right_parts (spots_right h0)
    unfold keptB
    split
    · have := ofB_len 4 c.vars s'.vars
      have := hr.2.1
      omega
    · exact Nat.zero_le _
  have sh := (fits_short h0 hok.fits).2.2
  have shb : (firstB c).blocks.length ≤ 100000 := by have := (right_parts (spots_right h0)).2.2.1; have := hlf.2; omega
  generalize mixB c.vars (firstB c).vars s'.vars = mx at *
  generalize keptB c s' = kp at *
  have HAT := Fact.mk (fun j (hj : j < c.vars.length) => hat j hj hlf.1 hlen.1)
  have LEN := Fact.mk (And.intro hlen.1 (And.intro hlf.1 hlm))
  have RS1 := Fact.mk rs1
  have RS4 := Fact.mk rs4
  have HK := Fact.mk hkl
  have CW := Fact.mk (And.intro hw (And.intro hn (h.below ht.bel)))
  have RV := Fact.mk (h.below ht.bel).vars
  have RT := Fact.mk hrt.v
  have RF := Fact.mk ((hfr.v.below ht.bel))
  have RFB := Fact.mk ((hfr.b.below ht.bel))
  clear hX hP ht hrs hrt hro hri hl hok b2 r2 r3 z2 bW kX h hw hn h0 hfr rs1 rs2 rs3 rs4 eR hlen hlf hlm hat hkl OK
  go_enter Try.func25, Try.ntmps25
  go_upto_region 1 with (fail)
  generalize (W.alloc (.cells #[.slice AV s.vars.length cV, .slice AB s.blocks.length cB] 34)).alloc (.cells #[.slice AV' s'.vars.length cV', .slice AB' s'.blocks.length cB'] 34) = w2 at *
  have u0' : w2.cell? ⟨W.heap.size, 0, none⟩ = some (.slice AV s.vars.length cV) := cell_of_row _ _ 0 _ _ _ R2.out
  have u1' : w2.cell? ⟨W.heap.size, 1, none⟩ = some (.slice AB s.blocks.length cB) := cell_of_row _ _ 1 _ _ _ R2.out
  have sv : w2.cell? ⟨W.heap.size + 1, 0, none⟩ = some (.slice AV' s'.vars.length cV') := cell_of_row _ _ 0 _ _ _ R3.out
  have sb : w2.cell? ⟨W.heap.size + 1, 1, none⟩ = some (.slice AB' s'.blocks.length cB') := cell_of_row _ _ 1 _ _ _ R3.out
  clear u0' u1' R2 R3
  go_wp2_with fail
  refine (KS.out _ B2.out).mono ?_
  rintro e W3 ⟨K, rfl, hoK, hb3⟩
  obtain ⟨AK, nK, cK, rfl⟩ := hoK.slice
  have B3 := Fact.mk (B2.out.trans (hb3.mono B2.out.size))
  have RK := Fact.mk (hoK.rd oneI64_len)
  replace k0 := cell_below hb3 _ _ k0
  replace k1 := cell_below hb3 _ _ k1
  replace k2 := cell_below hb3 _ _ k2
  replace k3 := cell_below hb3 _ _ k3
  replace fv := cell_below hb3 _ _ fv
  replace fb := cell_below hb3 _ _ fb
  replace sv := cell_below hb3 _ _ sv
  replace sb := cell_below hb3 _ _ sb
  replace KX := Fact.mk ((hb3.block X lX).trans KX.out)
  replace lX := Nat.lt_of_lt_of_le lX hb3.size
  replace lF := Nat.lt_of_lt_of_le lF hb3.size
  replace L2 := Nat.lt_of_lt_of_le L2 hb3.size
  have CR := Fact.mk (RSX.out _ B3.out _ _ RK.out)
  rw [RS1.out] at CR
  clear hb3 hoK KS B2
  go_wp2_with fail
  refine CR.out.mono ?_
  rintro e W4 ⟨V4, B4, rfl, ho4, hb4⟩
  obtain ⟨AT, cT, rfl⟩ := ho4.v.slice2
  obtain ⟨AU, cU, rfl⟩ := ho4.b.slice2
  obtain ⟨b5, r5, z5⟩ := one_block W4 (.cells #[.slice AT mx.length cT, .slice AU (firstB c).blocks.length cU] 34)
  have hb45 := hb4.trans (b5.mono hb4.size)
  have B5 := Fact.mk (B3.out.trans (hb45.mono B3.out.size))
  have PT := Fact.mk (ho4.below b5).rd
  replace k0 := cell_below hb45 _ _ k0
  replace k1 := cell_below hb45 _ _ k1
  replace k2 := cell_below hb45 _ _ k2
  replace k3 := cell_below hb45 _ _ k3
  replace fv := cell_below hb45 _ _ fv
  replace fb := cell_below hb45 _ _ fb
  replace sv := cell_below hb45 _ _ sv
  replace sb := cell_below hb45 _ _ sb
  replace KX := Fact.mk ((hb45.block X lX).trans KX.out)
  replace lX := Nat.lt_of_lt_of_le lX hb45.size
  replace lF := Nat.lt_of_lt_of_le lF hb45.size
  replace L2 := Nat.lt_of_lt_of_le L2 hb45.size
  have tv := cell_of_row _ _ 0 _ _ _ r5
  have tb := cell_of_row _ _ 1 _ _ _ r5
  have lT : W4.heap.size < (W4.alloc (.cells #[.slice AT mx.length cT, .slice AU (firstB c).blocks.length cU] 34)).heap.size := by rw [z5]; omega
  have RK5 := Fact.mk (RK.out.below hb45)
  clear hb4 hb45 ho4 b5 r5 z5 CR RK B3
  go_upto_region 3 with (fail)
  generalize W4.alloc (.cells #[.slice AT mx.length cT, .slice AU (firstB c).blocks.length cU] 34) = w5 at *
  generalize W4.heap.size = TB at *
  have CG := Fact.mk (RG.out _ B5.out _ _ PT.out)
  go_wp2_with fail
  refine CG.out.mono ?_
  rintro e W6 ⟨rfl, hb6⟩
  have B6 := Fact.mk (B5.out.trans (hb6.mono B5.out.size))
  have PT6 := Fact.mk (PT.out.below hb6)
  have RK6 := Fact.mk (RK5.out.below hb6)
  replace k0 := cell_below hb6 _ _ k0
  replace k1 := cell_below hb6 _ _ k1
  replace k2 := cell_below hb6 _ _ k2
  replace k3 := cell_below hb6 _ _ k3
  replace fv := cell_below hb6 _ _ fv
  replace fb := cell_below hb6 _ _ fb
  replace sv := cell_below hb6 _ _ sv
  replace sb := cell_below hb6 _ _ sb
  replace KX := Fact.mk ((hb6.block X lX).trans KX.out)
  replace lX := Nat.lt_of_lt_of_le lX hb6.size
  replace lF := Nat.lt_of_lt_of_le lF hb6.size
  replace L2 := Nat.lt_of_lt_of_le L2 hb6.size
  replace tv := cell_below hb6 _ _ tv
  replace tb := cell_below hb6 _ _ tb
  replace lT := Nat.lt_of_lt_of_le lT hb6.size
  have CK := Fact.mk (KT.out _ B6.out _ _ PT6.out)
  clear hb6 CG RG PT RK5 B5 KT
  go_wp2_with fail
  refine CK.out.mono ?_
  rintro e W7 ⟨K7, rfl, hoK7, hb7⟩
  obtain ⟨A7, n7, q7, rfl⟩ := hoK7.slice
  have B7 := Fact.mk (B6.out.trans (hb7.mono B6.out.size))
  have RK7 := Fact.mk (RK6.out.below hb7)
  have PT7 := Fact.mk (PT6.out.below hb7)
  replace k0 := cell_below hb7 _ _ k0
  replace k1 := cell_below hb7 _ _ k1
  replace k2 := cell_below hb7 _ _ k2
  replace k3 := cell_below hb7 _ _ k3
  replace fv := cell_below hb7 _ _ fv
  replace fb := cell_below hb7 _ _ fb
  replace sv := cell_below hb7 _ _ sv
  replace sb := cell_below hb7 _ _ sb
  replace KX := Fact.mk ((hb7.block X lX).trans KX.out)
  replace lX := Nat.lt_of_lt_of_le lX hb7.size
  replace lF := Nat.lt_of_lt_of_le lF hb7.size
  replace L2 := Nat.lt_of_lt_of_le L2 hb7.size
  replace tv := cell_below hb7 _ _ tv
  replace tb := cell_below hb7 _ _ tb
  replace lT := Nat.lt_of_lt_of_le lT hb7.size
  have SM := Fact.mk (same64_any W7 _ _ _ _ (hoK7.rd oneI64_len) RK7.out)
  rw [decide_eq_true (rfl : kp = kp)] at SM
  clear hb7 hoK7 CK RK6 PT6 B6
  go_wp2_with fail
  refine SM.out.mono ?_
  rintro e W8 ⟨rfl, hb8⟩
  have B8 := Fact.mk (B7.out.trans (hb8.mono B7.out.size))
  have RK8 := Fact.mk (RK7.out.below hb8)
  have RM := Fact.mk (PT7.out.below hb8).v
  have RMB := Fact.mk (PT7.out.below hb8).b
  replace k0 := cell_below hb8 _ _ k0
  replace k1 := cell_below hb8 _ _ k1
  replace k2 := cell_below hb8 _ _ k2
  replace k3 := cell_below hb8 _ _ k3
  replace fv := cell_below hb8 _ _ fv
  replace fb := cell_below hb8 _ _ fb
  replace sv := cell_below hb8 _ _ sv
  replace sb := cell_below hb8 _ _ sb
  replace KX := Fact.mk ((hb8.block X lX).trans KX.out)
  replace lX := Nat.lt_of_lt_of_le lX hb8.size
  replace lF := Nat.lt_of_lt_of_le lF hb8.size
  replace L2 := Nat.lt_of_lt_of_le L2 hb8.size
  replace tv := cell_below hb8 _ _ tv
  replace tb := cell_below hb8 _ _ tb
  replace lT := Nat.lt_of_lt_of_le lT hb8.size
  clear hb8 SM RK7 PT7 B7
  go_wp2_with fail
  go_loopw [53] (fun i wr => ∃ j : Nat, j ≤ c.vars.length ∧ i = .int .i64 j ∧ Fact (Below W8.heap.size W8 wr)) (fun i _ => c.vars.length - (intOf i).toNat)
  case atStart => exact ⟨0, Nat.zero_le _, rfl, ⟨Below.refl _ _⟩⟩
  case round =>
    obtain ⟨j, hj, rfl, HB⟩ := hrel
    have hB8 := B8.out.trans (HB.out.mono B8.out.size)
    by_cases hlt : j < c.vars.length
    · obtain ⟨b1, o1, hA1, d0, d1, d2, d3⟩ : ∃ b o, A1 = some ⟨b, o, none⟩ ∧ wr.cell? ⟨b, o + j * 4, none⟩ = some (.string c.vars[j].name) ∧ wr.cell? ⟨b, o + j * 4 + 1, none⟩ = some (.int .u8 c.vars[j].cls) ∧ wr.cell? ⟨b, o + j * 4 + 2, none⟩ = some (.int .u8 c.vars[j].ty) ∧ wr.cell? ⟨b, o + j * 4 + 3, none⟩ = some (.int .i64 c.vars[j].first) := by
        obtain ⟨_, A, c', e, _, _, q1⟩ := RV.out
        cases e
        obtain ⟨b1, o1, rfl, r1⟩ := q1 (by omega)
        exact ⟨b1, o1, rfl, cell_below hB8 _ _ (r1 j hlt 0 _ rfl), cell_below hB8 _ _ (r1 j hlt 1 _ rfl), cell_below hB8 _ _ (r1 j hlt 2 _ rfl), cell_below hB8 _ _ (r1 j hlt 3 _ rfl)⟩
      subst hA1
      have i1 : (j : Int) < (c.vars.length : Int) := by omega
      have i2 : (j : Int) < (s'.vars.length : Int) := by have := LEN.out.1; omega
      have i3 : (j : Int) < ((firstB c).vars.length : Int) := by have := LEN.out.2.1; omega
      have i4 : (j : Int) < (mx.length : Int) := by have := LEN.out.2.2; omega
      obtain ⟨bs, os, qs, e, hxs⟩ := rd_at64 (RT.out.below hB8) j (by omega)
      cases e
      obtain ⟨bf, of', qf, e, hxf⟩ := rd_at64 (RF.out.below hB8) j (by omega)
      cases e
      obtain ⟨bm, om, qm, e, hxm⟩ := rd_at64 (RM.out.below HB.out) j (by omega)
      cases e
      have hat := HAT.out j hlt
      replace fv := cell_below HB.out _ _ fv
      replace sv := cell_below HB.out _ _ sv
      replace tv := cell_below HB.out _ _ tv
      replace lF := Nat.lt_of_lt_of_le lF HB.out.size
      replace L2 := Nat.lt_of_lt_of_le L2 HB.out.size
      replace lT := Nat.lt_of_lt_of_le lT HB.out.size
      generalize s'.vars.getD j 0 = xs at *
      generalize (firstB c).vars.getD j 0 = xf at *
      generalize mx.getD j 0 = xm at *
      have NX : Fact (j + 1 ≤ c.vars.length) := ⟨hlt⟩
      obtain ⟨b9, r9, z9⟩ := one_block wr (.cells #[.string c.vars[j].name, .int .u8 c.vars[j].cls, .int .u8 c.vars[j].ty, .int .i64 c.vars[j].first] 43)
      have B9 := Fact.mk (HB.out.trans (b9.mono HB.out.size))
      go_upto_region 8 with (fail)
      have g1 := cell_of_row _ _ 1 _ _ _ r9
      have lg : wr.heap.size < (wr.alloc (.cells #[.string c.vars[j].name, .int .u8 c.vars[j].cls, .int .u8 c.vars[j].ty, .int .i64 c.vars[j].first] 43)).heap.size := by rw [z9]; omega
      replace fv := cell_below b9 _ _ fv
      replace sv := cell_below b9 _ _ sv
      replace tv := cell_below b9 _ _ tv
      replace hxs := cell_below b9 _ _ hxs
      replace hxf := cell_below b9 _ _ hxf
      replace hxm := cell_below b9 _ _ hxm
      replace lF := Nat.lt_of_lt_of_le lF b9.size
      replace L2 := Nat.lt_of_lt_of_le L2 b9.size
      replace lT := Nat.lt_of_lt_of_le lT b9.size
      have lbs := World.block_lt_of_cell? _ _ hxs
      have lbf := World.block_lt_of_cell? _ _ hxf
      have lbm := World.block_lt_of_cell? _ _ hxm
      clear d0 d1 d2 d3 HB hB8 b9 r9 z9 k0 k1 k2 k3 fb sb tb lX
      generalize wr.alloc (.cells #[.string c.vars[j].name, .int .u8 c.vars[j].cls, .int .u8 c.vars[j].ty, .int .i64 c.vars[j].first] 43) = w9 at *
      by_cases hc : c.vars[j].cls = 4
      · rw [if_pos hc] at hat
        subst hat
        have e1 : (c.vars[j].cls != 4) = false := by rw [hc]; rfl
        have e2 : (c.vars[j].cls == 4) = true := beq_iff_eq.2 hc
        clear hc
        go_quiet (fail)
        go_wp2_with fail
        go_roundw
        case rel => exact ⟨j + 1, NX.out, by go_num, ⟨drewN_below B9.out _⟩⟩
        case measure => simp [intOf]; omega
      · rw [if_neg hc] at hat
        subst hat
        have e1 : (c.vars[j].cls != 4) = true := bne_iff_ne.2 hc
        have e2 : (c.vars[j].cls == 4) = false := beq_eq_false_iff_ne.2 hc
        clear hc
        go_quiet (fail)
        go_wp2_with fail
        go_roundw
        case rel => exact ⟨j + 1, NX.out, by go_num, ⟨drewN_below B9.out _⟩⟩
        case measure => simp [intOf]; omega
    · obtain rfl : j = c.vars.length := by omega
      replace k0 := cell_below HB.out _ _ k0
      replace k1 := cell_below HB.out _ _ k1
      replace k2 := cell_below HB.out _ _ k2
      replace k3 := cell_below HB.out _ _ k3
      replace fv := cell_below HB.out _ _ fv
      replace fb := cell_below HB.out _ _ fb
      replace sv := cell_below HB.out _ _ sv
      replace sb := cell_below HB.out _ _ sb
      replace KX := Fact.mk ((HB.out.block X lX).trans KX.out)
      replace lX := Nat.lt_of_lt_of_le lX HB.out.size
      replace lF := Nat.lt_of_lt_of_le lF HB.out.size
      replace L2 := Nat.lt_of_lt_of_le L2 HB.out.size
      replace tv := cell_below HB.out _ _ tv
      replace tb := cell_below HB.out _ _ tb
      replace lT := Nat.lt_of_lt_of_le lT HB.out.size
      have B10 := Fact.mk hB8
      have RK10 := Fact.mk (RK8.out.below HB.out)
      have RMB10 := Fact.mk (RMB.out.below HB.out)
      clear RK8 RMB RM RT RF RV hB8 HB B8 hj hlt HAT
      generalize wr = wq at *
      go_wp2_with fail
      go_loopw [96] (fun i wrr => ∃ j : Nat, j ≤ (firstB c).blocks.length ∧ i = .int .i64 j ∧ Fact (Below wq.heap.size wq wrr)) (fun i _ => (firstB c).blocks.length - (intOf i).toNat)
      case atStart => exact ⟨0, Nat.zero_le _, rfl, ⟨Below.refl _ _⟩⟩
      case round =>
        obtain ⟨j, hj, rfl, HB2⟩ := hrel
        by_cases hlt : j < (firstB c).blocks.length
        · obtain ⟨b1, o1, hA1, q1⟩ : ∃ b o, AU = some ⟨b, o, none⟩ ∧ ∀ j (hj : j < (firstB c).blocks.length) (i : Nat) u, (encBlk (firstB c).blocks[j])[i]? = some u → wq.cell? ⟨b, o + j * 10 + i, none⟩ = some u := by
            obtain ⟨_, A, c', e, _, _, q1⟩ := RMB10.out
            cases e
            obtain ⟨b1, o1, rfl, r1⟩ := q1 (by omega)
            exact ⟨b1, o1, rfl, r1⟩
          obtain ⟨b2, o2, hA2, q2⟩ : ∃ b o, AG = some ⟨b, o, none⟩ ∧ ∀ j (hj : j < (firstB c).blocks.length) (i : Nat) u, (encBlk (firstB c).blocks[j])[i]? = some u → wq.cell? ⟨b, o + j * 10 + i, none⟩ = some u := by
            obtain ⟨_, A, c', e, _, _, q1⟩ := RFB.out.below B10.out
            cases e
            obtain ⟨b1, o1, rfl, r1⟩ := q1 (by omega)
            exact ⟨b1, o1, rfl, r1⟩
          subst hA1 hA2
          have d0 : wr.cell? ⟨b1, o1 + j * 10, none⟩ = some (.int .u8 (firstB c).blocks[j].kind) := cell_below HB2.out _ _ (q1 j hlt 0 _ rfl)
          have d1 : wr.cell? ⟨b1, o1 + j * 10 + 1, none⟩ = some (.bool (firstB c).blocks[j].w0) := cell_below HB2.out _ _ (q1 j hlt 1 _ rfl)
          have d2 : wr.cell? ⟨b1, o1 + j * 10 + 2, none⟩ = some (.bool (firstB c).blocks[j].w1) := cell_below HB2.out _ _ (q1 j hlt 2 _ rfl)
          have d3 : wr.cell? ⟨b1, o1 + j * 10 + 3, none⟩ = some (.bool (firstB c).blocks[j].ran) := cell_below HB2.out _ _ (q1 j hlt 3 _ rfl)
          have d4 : wr.cell? ⟨b1, o1 + j * 10 + 4, none⟩ = some (.bool (firstB c).blocks[j].going) := cell_below HB2.out _ _ (q1 j hlt 4 _ rfl)
          have d5 : wr.cell? ⟨b1, o1 + j * 10 + 5, none⟩ = some (.int .i64 (firstB c).blocks[j].frm) := cell_below HB2.out _ _ (q1 j hlt 5 _ rfl)
          have d6 : wr.cell? ⟨b1, o1 + j * 10 + 6, none⟩ = some (.int .i64 (firstB c).blocks[j].et) := cell_below HB2.out _ _ (q1 j hlt 6 _ rfl)
          have d7 : wr.cell? ⟨b1, o1 + j * 10 + 7, none⟩ = some (.int .i64 (firstB c).blocks[j].cv) := cell_below HB2.out _ _ (q1 j hlt 7 _ rfl)
          have d8 : wr.cell? ⟨b1, o1 + j * 10 + 8, none⟩ = some (.bool (firstB c).blocks[j].q) := cell_below HB2.out _ _ (q1 j hlt 8 _ rfl)
          have d9 : wr.cell? ⟨b1, o1 + j * 10 + 9, none⟩ = some (.bool (firstB c).blocks[j].p) := cell_below HB2.out _ _ (q1 j hlt 9 _ rfl)
          have f0 : wr.cell? ⟨b2, o2 + j * 10, none⟩ = some (.int .u8 (firstB c).blocks[j].kind) := cell_below HB2.out _ _ (q2 j hlt 0 _ rfl)
          have f1 : wr.cell? ⟨b2, o2 + j * 10 + 1, none⟩ = some (.bool (firstB c).blocks[j].w0) := cell_below HB2.out _ _ (q2 j hlt 1 _ rfl)
          have f2 : wr.cell? ⟨b2, o2 + j * 10 + 2, none⟩ = some (.bool (firstB c).blocks[j].w1) := cell_below HB2.out _ _ (q2 j hlt 2 _ rfl)
          have f3 : wr.cell? ⟨b2, o2 + j * 10 + 3, none⟩ = some (.bool (firstB c).blocks[j].ran) := cell_below HB2.out _ _ (q2 j hlt 3 _ rfl)
          have f4 : wr.cell? ⟨b2, o2 + j * 10 + 4, none⟩ = some (.bool (firstB c).blocks[j].going) := cell_below HB2.out _ _ (q2 j hlt 4 _ rfl)
          have f5 : wr.cell? ⟨b2, o2 + j * 10 + 5, none⟩ = some (.int .i64 (firstB c).blocks[j].frm) := cell_below HB2.out _ _ (q2 j hlt 5 _ rfl)
          have f6 : wr.cell? ⟨b2, o2 + j * 10 + 6, none⟩ = some (.int .i64 (firstB c).blocks[j].et) := cell_below HB2.out _ _ (q2 j hlt 6 _ rfl)
          have f7 : wr.cell? ⟨b2, o2 + j * 10 + 7, none⟩ = some (.int .i64 (firstB c).blocks[j].cv) := cell_below HB2.out _ _ (q2 j hlt 7 _ rfl)
          have f8 : wr.cell? ⟨b2, o2 + j * 10 + 8, none⟩ = some (.bool (firstB c).blocks[j].q) := cell_below HB2.out _ _ (q2 j hlt 8 _ rfl)
          have f9 : wr.cell? ⟨b2, o2 + j * 10 + 9, none⟩ = some (.bool (firstB c).blocks[j].p) := cell_below HB2.out _ _ (q2 j hlt 9 _ rfl)
          replace fb := cell_below HB2.out _ _ fb
          replace tb := cell_below HB2.out _ _ tb
          replace lF := Nat.lt_of_lt_of_le lF HB2.out.size
          replace lT := Nat.lt_of_lt_of_le lT HB2.out.size
          have lb1 := World.block_lt_of_cell? wr _ d0
          have lb2 := World.block_lt_of_cell? wr _ f0
          have i1 : (j : Int) < ((firstB c).blocks.length : Int) := by omega
          have NX : Fact (j + 1 ≤ (firstB c).blocks.length) := ⟨hlt⟩
          have HB3 := Fact.mk HB2.out.drew
          clear q1 q2 k0 k1 k2 k3 fv sv sb tv
          generalize (firstB c).blocks[j] = b at *
          have eqb := eq_blk b
          go_wp2_with fail
          go_region
          go_wp2_with fail
          go_roundw
          case rel => exact ⟨j + 1, NX.out, by go_num, HB3⟩
          case measure => simp [intOf]; omega
        · obtain rfl : j = (firstB c).blocks.length := by omega
          have B11 := Fact.mk (B10.out.trans (HB2.out.mono B10.out.size))
          have CX : rsCtx X c A1 A2 A3 c1 c2 c3 kp AK nK cK wr := ⟨CW.out.1, CW.out.2.1, (HB2.out.block X lX).trans KX.out, CW.out.2.2.below B11.out, RK10.out.below HB2.out, HK.out, RS4.out⟩
          clear RK10 RMB10 RFB HK RS1 RS4 LEN fv fb sv sb tv tb k0 k1 k2 k3 lF lX lT L2 KX CW sh shb
          go_upto_region 17 with (fail)
          refine rs_region CX _ _ _ _ _ _ _ _ _ _ _ _ ?_
          intro u23 u111 u112 u113 u114 u115 u116 u117 u118 u119 u120 w12 hb12
          have B12 := Fact.mk (B11.out.trans (hb12.mono B11.out.size))
          clear hb12 CX
          go_wp2
          go_ret
          exact ⟨rfl, B12.out⟩
end Go.Proofs.Ytiogpainajokkaa

namespace Go.Proofs.Ytiogpainajokkaa
open Go.RowKit
set_option maxHeartbeats 8000000 in
set_option maxRecDepth 100000 in
theorem plyR_any (c : GCode) (hw : c.Wf) (hn : (c.ins.length : Int) < 9223372036854775807) (ls : List (Value × Int)) (vs bs is lv q1 q2 : Value) (w : World) (h : CodeRd w c vs bs is) (hl : Rd encGo 2 w lv ls) (hls : ∀ a ∈ ls, GoOk w a)
    (ht : (spotsB c).2.2 = 0 → ∀ (W : World) (s s' : GPlant) (ins out : List Int) (n : Nat) (now e : Int) (V B V' B' I O : Value), Told w W c s s' ins out n now e V B V' B' I O →
      Calls Try.prog 25 #[.agg #[V, B], .agg #[V', B'], I, O, .int .i64 n, .int .i64 now, .int .i64 e, q1, q2] W fun e w' => e = .returned (.bool true) ∧ Below W.heap.size W w') :
    Calls Try.prog 14 #[.agg #[.string c.name, vs, bs, is], lv, .func (.func 25) #[] #[q1, q2]] w fun e w' => e = .returned (.bool true) ∧ Below w.heap.size w w' := by
  obtain ⟨A1, c1, rfl⟩ : ∃ A c', vs = .slice A c.vars.length c' := by obtain ⟨_, A, c', h, _⟩ := h.vars; exact ⟨A, c', h⟩
  obtain ⟨A2, c2, rfl⟩ : ∃ A c', bs = .slice A c.blocks.length c' := by obtain ⟨_, A, c', h, _⟩ := h.blocks; exact ⟨A, c', h⟩
  obtain ⟨A3, c3, rfl⟩ : ∃ A c', is = .slice A c.ins.length c' := by obtain ⟨_, A, c', h, _⟩ := h.ins; exact ⟨A, c', h⟩
  obtain ⟨AL, cL, rfl⟩ : ∃ A c', lv = .slice A ls.length c' := by obtain ⟨_, A, c', h, _⟩ := hl; exact ⟨A, c', h⟩
  obtain ⟨b1, r1, z1⟩ := one_block w (.cells #[.string c.name, .slice A1 c.vars.length c1, .slice A2 c.blocks.length c2, .slice A3 c.ins.length c3] 26)
  have B2 := Fact.mk b1
  have R2 := Fact.mk r1
  have L2 : w.heap.size < (w.alloc (.cells #[.string c.name, .slice A1 c.vars.length c1, .slice A2 c.blocks.length c2, .slice A3 c.ins.length c3] 26)).heap.size := by rw [z1]; omega
  have HL := Fact.mk hl
  have HLS := Fact.mk hls
  have HT := Fact.mk ht
  have NW := Fact.mk (fun W (hW : Below w.heap.size w W) => snew_any c hw hn _ _ _ 2001 W (h.below hW))
  have FT := Fact.mk (fun W (hW : Below w.heap.size w W) v l (hv : Rd oneI64 1 W v l) (h1 : c.vars.length ≤ 100000) => fit_any c l _ _ _ v W (h.below hW) hv h1)
  have SC := Fact.mk (fun W (hW : Below w.heap.size w W) s V B v l now (hp : PlRd W s V B) (hv : Rd oneI64 1 W v l) (h1 : s.vars.length ≤ 100000) (h2 : s.blocks.length ≤ 100000) => scan_any c hw hn s l now _ _ _ V B v W (h.below hW) hp hv h1 h2)
  obtain ⟨er, her⟩ : ∃ er, checkB c 2001 = er := ⟨_, rfl⟩
  have HN : newP c 2001 = if er = 0 then (firstB c, 0) else (⟨[], []⟩, er) := by unfold newP; rw [her]
  have HE := Fact.mk her
  clear b1 r1 z1 hl hls ht h hw hn her
  go_enter Try.func14, Try.ntmps14
  go_upto_region 1 with (fail)
  generalize (w.alloc (.cells #[.string c.name, .slice A1 c.vars.length c1, .slice A2 c.blocks.length c2, .slice A3 c.ins.length c3] 26)) = w2 at *
  obtain ⟨k0, k1, k2, k3⟩ : w2.cell? ⟨w.heap.size, 0, none⟩ = some (.string c.name) ∧ w2.cell? ⟨w.heap.size, 1, none⟩ = some (.slice A1 c.vars.length c1) ∧ w2.cell? ⟨w.heap.size, 2, none⟩ = some (.slice A2 c.blocks.length c2) ∧ w2.cell? ⟨w.heap.size, 3, none⟩ = some (.slice A3 c.ins.length c3) := ⟨cell_of_row _ _ 0 _ _ _ R2.out, cell_of_row _ _ 1 _ _ _ R2.out, cell_of_row _ _ 2 _ _ _ R2.out, cell_of_row _ _ 3 _ _ _ R2.out⟩
  go_wp2_with fail
  refine (NW.out _ B2.out).mono ?_
  rintro e W3 ⟨V, B, rfl, ho3, hb3⟩
  obtain ⟨AV, nV, cV, rfl⟩ := ho3.v.slice
  obtain ⟨AB, nB, cB, rfl⟩ := ho3.b.slice
  obtain ⟨b4, r4, z4⟩ := one_block W3 (.cells #[.slice AV nV cV, .slice AB nB cB] 34)
  have B4 := (B2.out.trans (hb3.mono B2.out.size)).trans (b4.mono (B2.out.trans (hb3.mono B2.out.size)).size)
  by_cases h0 : er = 0
  · rw [HN, if_pos h0] at ho3 ⊢
    subst h0
    have S0 := Fact.mk (check_spots HE.out)
    have ST : Fact (PlySt w (W3.alloc (.cells #[.slice AV nV cV, .slice AB nB cB] 34)) w.heap.size W3.heap.size c (.slice A1 c.vars.length c1) (.slice A2 c.blocks.length c2) (.slice A3 c.ins.length c3) (firstB c) 0 0 (.slice AV nV cV) (.slice AB nB cB)) := ⟨⟨B4, ((hb3.trans (b4.mono hb3.size)).block _ L2).trans R2.out, r4, (B2.out.trans (hb3.mono B2.out.size)).size, Nat.ne_of_lt (Nat.lt_of_lt_of_le L2 hb3.size), (ho3.below b4).lower B2.out.size, first_fits S0.out, Int.le_refl _, Int.le_refl _⟩⟩
    clear k0 k1 k2 k3 b4 r4 z4 ho3 hb3 B4 HN HE NW L2 R2 B2
    go_upto_region 2 with (fail)
    generalize W3.alloc (.cells #[.slice AV nV cV, .slice AB nB cB] 34) = w4 at *
    generalize W3.heap.size = P at *
    obtain ⟨X, hX⟩ : ∃ X, w.heap.size = X := ⟨_, rfl⟩
    have HX := Fact.mk hX
    rw [hX] at ST ⊢
    clear hX
    go_wp2_with fail
    go_loopw [9, 10] (fun sn i wr => ∃ (k : Nat) (now : Int) (s : GPlant) (V B : Value), k ≤ ls.length ∧ k ≤ 20 ∧ i = .int .i64 k ∧ sn = .int .i64 now ∧ Fact (PlySt w wr X P c (.slice A1 c.vars.length c1) (.slice A2 c.blocks.length c2) (.slice A3 c.ins.length c3) s now k V B)) (fun _ i _ => 20 - (intOf i).toNat)
    case atStart => exact ⟨0, 0, _, _, _, Nat.zero_le _, Nat.zero_le _, rfl, rfl, ST⟩
    case round =>
      obtain ⟨k, now, s, V, B, hk, hk20, rfl, rfl, HS⟩ := hrel
      clear ST
      by_cases hlt : k < ls.length
      · by_cases h20 : k < 20
        · obtain ⟨bl, ol, cl', e, g1, g2⟩ := (HL.out.below HS.out.bel).atGo k hlt
          cases e
          obtain ⟨⟨vx, L⟩, hx⟩ : ∃ x, ls[k] = x := ⟨_, rfl⟩
          have hok := HLS.out _ (List.getElem_mem hlt)
          rw [hx] at g1 g2 hok
          obtain ⟨⟨l, hl1⟩, L1, L3⟩ := hok
          obtain ⟨Ax, nx, cx, rfl⟩ : ∃ A n c', vx = .slice A n c' := by obtain ⟨_, A, c', h, _⟩ := hl1; exact ⟨A, _, c', h⟩
          have RL := Fact.mk (hl1.below HS.out.bel)
          have i1 : (k : Int) < (ls.length : Int) := by omega
          have i2 : (k : Int) < 20 := by omega
          obtain ⟨AV', nV', cV', rfl⟩ := HS.out.own.v.slice
          obtain ⟨AB', nB', cB', rfl⟩ := HS.out.own.b.slice
          have NN : Fact (0 ≤ now + L ∧ now + L ≤ 65535 * ((k + 1 : Nat) : Int) ∧ now + L ≤ 1125899906842624 ∧ k + 1 ≤ ls.length ∧ k + 1 ≤ 20) := ⟨by have := HS.out.n1; have := HS.out.n2; omega⟩
          have ew : IntKind.i64.wrap (now + L) = now + L := by
            have h1 := NN.out.1
            have h2 := NN.out.2.2.1
            exact i64_small h1 (by omega)
          have eL : IntKind.i64.wrap L = L := i64_small L1 (by omega)
          obtain ⟨m, hm⟩ : ∃ m, now + L = m := ⟨_, rfl⟩
          rw [hm] at NN ew
          have lb := World.block_lt_of_cell? wr _ g1
          obtain ⟨k0, k1, k2, k3⟩ : wr.cell? ⟨X, 0, none⟩ = some (.string c.name) ∧ wr.cell? ⟨X, 1, none⟩ = some (.slice A1 c.vars.length c1) ∧ wr.cell? ⟨X, 2, none⟩ = some (.slice A2 c.blocks.length c2) ∧ wr.cell? ⟨X, 3, none⟩ = some (.slice A3 c.ins.length c3) := ⟨cell_of_row _ _ 0 _ _ _ HS.out.code, cell_of_row _ _ 1 _ _ _ HS.out.code, cell_of_row _ _ 2 _ _ _ HS.out.code, cell_of_row _ _ 3 _ _ _ HS.out.code⟩
          have lX : X < wr.heap.size := World.block_lt_of_cell? wr _ k0
          have hsh := fits_short S0.out HS.out.fits
          have SH := Fact.mk hsh
          clear hx hl1 L1 L3 hk hk20 hlt h20 hsh
          go_upto_region 9 with (fail)
          refine still_tail 6 (by kernel_rfl) (by kernel_rfl) (fun W => Below wr.heap.size wr W) (Below.refl _ _).drew ?_
          rintro W hbW
          replace g1 := cell_below hbW _ _ g1
          replace k0 := cell_below hbW _ _ k0
          replace k1 := cell_below hbW _ _ k1
          replace k2 := cell_below hbW _ _ k2
          replace k3 := cell_below hbW _ _ k3
          replace lb := Nat.lt_of_lt_of_le lb hbW.size
          replace lX := Nat.lt_of_lt_of_le lX hbW.size
          have BW := Fact.mk hbW
          clear g2 hbW
          simp only [List.take_succ_cons, List.take_zero, List.drop_succ_cons, List.drop_zero]
          repeat still_step
          refine wpStill_nil ?_
          clear g1 lb
          go_wp2_with fail
          refine (FT.out _ (HS.out.bel.trans (BW.out.mono HS.out.bel.size)) _ l (RL.out.below BW.out) SH.out.2.2).mono ?_
          rintro e W5 ⟨I, rfl, hoI, hb5⟩
          obtain ⟨AI, nI, cI, rfl⟩ := hoI.slice
          have B5 := Fact.mk (BW.out.trans (hb5.mono BW.out.size))
          have RI := Fact.mk (hoI.rd oneI64_len)
          replace k0 := cell_below hb5 _ _ k0
          replace k1 := cell_below hb5 _ _ k1
          replace k2 := cell_below hb5 _ _ k2
          replace k3 := cell_below hb5 _ _ k3
          replace lX := Nat.lt_of_lt_of_le lX hb5.size
          have rP := (B5.out.block P (Array.getElem?_eq_some_iff.1 HS.out.row).1).trans HS.out.row
          have j0 := cell_of_row _ _ 0 _ _ _ rP
          have j1 := cell_of_row _ _ 1 _ _ _ rP
          have lP := World.block_lt_of_cell? W5 _ j0
          clear hb5 BW RL hoI rP
          have PS := Fact.mk ((HS.out.own.below B5.out).rd)
          obtain ⟨⟨s', out, n, er⟩, hsc⟩ : ∃ r, scanB c s (fitB c.vars l) m = r := ⟨_, rfl⟩
          have OK := Fact.mk (scan_ok S0.out HS.out.fits l NN.out.1 NN.out.2.2.1)
          have CS := Fact.mk (SC.out W5 (HS.out.bel.trans (B5.out.mono HS.out.bel.size)) s _ _ _ (fitB c.vars l) m PS.out RI.out SH.out.1 SH.out.2.1)
          rw [hsc] at OK CS
          have HSC := Fact.mk hsc
          clear hsc
          go_wp2_with fail
          refine CS.out.mono ?_
          rintro e W6 ⟨V6, B6, O6, rfl, ho6, hO6, hb6⟩
          obtain ⟨AV6, nV6, cV6, rfl⟩ := ho6.v.slice
          obtain ⟨AB6, nB6, cB6, rfl⟩ := ho6.b.slice
          obtain ⟨AO6, nO6, cO6, rfl⟩ := hO6.slice
          obtain ⟨b7, r7, z7⟩ := one_block W6 (.cells #[.slice AV6 nV6 cV6, .slice AB6 nB6 cB6] 34)
          have h67 := hb6.trans (b7.mono hb6.size)
          have B7 := Fact.mk (B5.out.trans (h67.mono B5.out.size))
          have PO := Fact.mk ((ho6.below b7).lower B5.out.size)
          have TL : Fact (Told w (W6.alloc (.cells #[.slice AV6 nV6 cV6, .slice AB6 nB6 cB6] 34)) c s s' (fitB c.vars l) out n m er (.slice AV' nV' cV') (.slice AB' nB' cB') (.slice AV6 nV6 cV6) (.slice AB6 nB6 cB6) (.slice AI nI cI) (.slice AO6 nO6 cO6)) := ⟨⟨HS.out.bel.trans (B7.out.mono HS.out.bel.size), HS.out.fits, NN.out.1, NN.out.2.2.1, ⟨l, rfl⟩, HSC.out, PS.out.below h67, (ho6.below b7).rd, RI.out.below h67, (hO6.below b7).rd oneI64_len⟩⟩
          have R7 := Fact.mk r7
          have l7 : W6.heap.size < (W6.alloc (.cells #[.slice AV6 nV6 cV6, .slice AB6 nB6 cB6] 34)).heap.size := by rw [z7]; omega
          have CT := Fact.mk (HT.out S0.out _ _ _ _ _ _ _ _ _ _ _ _ _ _ TL.out)
          replace j0 := cell_below h67 _ _ j0
          replace j1 := cell_below h67 _ _ j1
          replace lP := Nat.lt_of_lt_of_le lP h67.size
          have t0 := cell_of_row _ _ 0 _ _ _ r7
          have t1 := cell_of_row _ _ 1 _ _ _ r7
          clear k0 k1 k2 k3 lX ho6 hO6 b7 r7 z7 hb6 h67 CS RI PS TL B5 HSC
          go_upto_region 11 with (fail)
          generalize W6.alloc (.cells #[.slice AV6 nV6 cV6, .slice AB6 nB6 cB6] 34) = w7 at *
          go_wp2_with fail
          refine CT.out.mono ?_
          rintro e W8 ⟨rfl, hb8⟩
          have B8 := Fact.mk (B7.out.trans (hb8.mono B7.out.size))
          have STN := Fact.mk (HS.out.next B8.out (PO.out.below hb8) OK.out.fits NN.out.1 NN.out.2.1)
          have p8 := (B8.out.block P (Array.getElem?_eq_some_iff.1 HS.out.row).1).trans HS.out.row
          have u0 := cell_of_row _ _ 0 _ _ _ p8
          have u1 := cell_of_row _ _ 1 _ _ _ p8
          have v0 := frozen_of_row _ _ 0 _ _ p8
          have v1 := frozen_of_row _ _ 1 _ _ p8
          have l8 := World.block_lt_of_cell? W8 _ u0
          replace t0 := cell_below hb8 _ _ t0
          replace t1 := cell_below hb8 _ _ t1
          replace l7 := Nat.lt_of_lt_of_le l7 hb8.size
          clear j0 j1 lP CT hb8 B7 B8 p8 PO OK HS R7
          go_wp2_with fail
          go_roundw
          case rel => exact ⟨k + 1, m, s', _, _, NN.out.2.2.2.1, NN.out.2.2.2.2, by go_num, rfl, STN⟩
          case measure => simp [intOf]; omega
        · obtain rfl : k = 20 := by omega
          have i1 : ((20 : Nat) : Int) < (ls.length : Int) := by omega
          have HB := Fact.mk HS.out.bel
          clear HS SC FT HT
          go_wp2_with fail
          go_ret
          exact ⟨rfl, HB.out⟩
      · obtain rfl : k = ls.length := by omega
        have HB := Fact.mk HS.out.bel
        clear HS SC FT HT
        go_wp2_with fail
        go_ret
        exact ⟨rfl, HB.out⟩
  · rw [HN, if_neg h0]
    have e1 : (er != 0) = true := bne_iff_ne.2 h0
    have BF := Fact.mk B4
    clear k0 k1 k2 k3 b4 r4 z4 ho3 hb3 B4 HN h0 HE NW
    go_wp2
    go_ret
    exact ⟨rfl, BF.out⟩
end Go.Proofs.Ytiogpainajokkaa

namespace Go.Proofs.Ytiogpainajokkaa
open Go.RowKit
set_option maxHeartbeats 4000000 in
set_option maxRecDepth 100000 in
theorem rsts_any (c : GCode) (hw : c.Wf) (hnm : c.name.size ≤ 9223372036854775807) (hv : ∀ x ∈ c.vars, x.name.size ≤ 9223372036854775807) (ls : List (Value × Int)) (vs bs is lv : Value) (w : World) (h : CodeRd w c vs bs is) (hl : Rd encGo 2 w lv ls) (hls : ∀ a ∈ ls, GoOk w a) :
    Calls Try.prog 8 #[.agg #[.string c.name, vs, bs, is], lv] w fun e w' => e = .returned (.bool true) ∧ Below w.heap.size w w' := by
  obtain ⟨A1, c1, rfl⟩ : ∃ A c', vs = .slice A c.vars.length c' := by obtain ⟨_, A, c', h, _⟩ := h.vars; exact ⟨A, c', h⟩
  obtain ⟨A2, c2, rfl⟩ : ∃ A c', bs = .slice A c.blocks.length c' := by obtain ⟨_, A, c', h, _⟩ := h.blocks; exact ⟨A, c', h⟩
  obtain ⟨A3, c3, rfl⟩ : ∃ A c', is = .slice A c.ins.length c' := by obtain ⟨_, A, c', h, _⟩ := h.ins; exact ⟨A, c', h⟩
  obtain ⟨AL, cL, rfl⟩ : ∃ A c', lv = .slice A ls.length c' := by obtain ⟨_, A, c', h, _⟩ := hl; exact ⟨A, c', h⟩
  obtain ⟨b1, r1, z1⟩ := one_block w (.cells #[.string c.name, .slice A1 c.vars.length c1, .slice A2 c.blocks.length c2, .slice A3 c.ins.length c3] 26)
  have B1 := Fact.mk b1
  have R1 := Fact.mk r1
  have Z1 := Fact.mk z1
  have HL := Fact.mk hl
  have HLS := Fact.mk hls
  have HC := Fact.mk h
  have HW := Fact.mk hw
  have GR := Fact.mk (fun W (hW : Below w.heap.size w W) => great_any c _ _ _ W (h.below hW) hnm hv)
  clear b1 r1 z1 hl hls h hw hnm hv
  go_enter Try.func8, Try.ntmps8
  go_upto_region 1 with (fail)
  generalize (w.alloc (.cells #[.string c.name, .slice A1 c.vars.length c1, .slice A2 c.blocks.length c2, .slice A3 c.ins.length c3] 26)) = w2 at *
  obtain ⟨k0, k1, k2, k3⟩ : w2.cell? ⟨w.heap.size, 0, none⟩ = some (.string c.name) ∧ w2.cell? ⟨w.heap.size, 1, none⟩ = some (.slice A1 c.vars.length c1) ∧ w2.cell? ⟨w.heap.size, 2, none⟩ = some (.slice A2 c.blocks.length c2) ∧ w2.cell? ⟨w.heap.size, 3, none⟩ = some (.slice A3 c.ins.length c3) := ⟨cell_of_row _ _ 0 _ _ _ R1.out, cell_of_row _ _ 1 _ _ _ R1.out, cell_of_row _ _ 2 _ _ _ R1.out, cell_of_row _ _ 3 _ _ _ R1.out⟩
  have l2 : w.heap.size < w2.heap.size := by rw [Z1.out]; omega
  go_wp2_with fail
  refine (GR.out _ B1.out).mono ?_
  rintro e W3 ⟨g, rfl, hg, hb3⟩
  have B3 := Fact.mk (B1.out.trans (hb3.mono B1.out.size))
  cases g with
  | true =>
    clear hg hb3 k0 k1 k2 k3 l2
    go_wp2_with fail
    refine (awkS_any _).mono ?_
    rintro e W4 ⟨rfl, hb4⟩
    have B4 := Fact.mk (B3.out.trans (hb4.mono B3.out.size))
    clear hb4 B3
    go_wp2
    go_ret
    exact ⟨rfl, B4.out⟩
  | false =>
    have HG := Fact.mk (hg rfl)
    have hn : (c.ins.length : Int) < 9223372036854775807 := by have := HG.out.2.2.1; omega
    have R3 := Fact.mk ((hb3.block _ l2).trans R1.out)
    have l3 := Nat.lt_of_lt_of_le l2 hb3.size
    replace k0 := cell_below hb3 _ _ k0
    replace k1 := cell_below hb3 _ _ k1
    replace k2 := cell_below hb3 _ _ k2
    replace k3 := cell_below hb3 _ _ k3
    obtain ⟨er, her⟩ : ∃ er, checkB c 2001 = er := ⟨_, rfl⟩
    have HNP : newP c 2001 = if er = 0 then (firstB c, 0) else (⟨[], []⟩, er) := by unfold newP; rw [her]
    have NW := Fact.mk (snew_any c HW.out hn _ _ _ 2001 W3 (HC.out.below B3.out))
    have HN := Fact.mk hn
    have HE := Fact.mk her
    clear hg hb3 l2 R1 Z1 B1 GR hn her
    go_wp2_with fail
    refine NW.out.mono ?_
    rintro e W4 ⟨V, B, rfl, ho4, hb4⟩
    obtain ⟨AV, nV, cV, rfl⟩ := ho4.v.slice
    obtain ⟨AB, nB, cB, rfl⟩ := ho4.b.slice
    obtain ⟨b5, r5, z5⟩ := one_block W4 (.cells #[.slice AV nV cV, .slice AB nB cB] 34)
    have h45 := hb4.trans (b5.mono hb4.size)
    have B5 := Fact.mk (B3.out.trans (h45.mono B3.out.size))
    by_cases h0 : er = 0
    · rw [HNP, if_pos h0] at ho4 ⊢
      subst h0
      have P5 := Fact.mk (ho4.below b5).rd
      have R5 := Fact.mk r5
      have RX := Fact.mk ((h45.block _ l3).trans R3.out)
      have S0 := Fact.mk (check_spots HE.out)
      replace k0 := cell_below h45 _ _ k0
      replace k1 := cell_below h45 _ _ k1
      replace k2 := cell_below h45 _ _ k2
      replace k3 := cell_below h45 _ _ k3
      replace l3 := Nat.lt_of_lt_of_le l3 h45.size
      clear ho4 hb4 b5 r5 z5 h45 HNP HE R3 NW B3
      go_upto_region 4 with (fail)
      generalize W4.alloc (.cells #[.slice AV nV cV, .slice AB nB cB] 34) = w5 at *
      generalize W4.heap.size = P at *
      have PL := Fact.mk (plyR_any c HW.out HN.out ls _ _ _ _ (.pointer (some ⟨w.heap.size, 0, none⟩)) (.pointer (some ⟨P, 0, none⟩)) w5 (HC.out.below B5.out) (HL.out.below B5.out) (fun a ha => by obtain ⟨⟨xs, hx⟩, h1, h2⟩ := HLS.out a ha; exact ⟨⟨xs, hx.below B5.out⟩, h1, h2⟩)
        (fun h0 W s s' ins out n now e V B V' B' I O ht => cloR_any c HW.out HN.out _ _ _ w5 w.heap.size P _ _ (HC.out.below B5.out) h0 RX.out R5.out P5.out W s s' ins out n now e V B V' B' I O ht))
      clear HL HLS HC HW HN HG RX R5 P5 S0
      go_wp2_with fail
      refine PL.out.mono ?_
      rintro e W8 ⟨rfl, hb8⟩
      have B8 := Fact.mk (B5.out.trans (hb8.mono B5.out.size))
      clear hb8 B5 PL k0 k1 k2 k3 l3
      go_wp2_with fail
      refine (awkS_any _).mono ?_
      rintro e W9 ⟨rfl, hb9⟩
      have B9 := Fact.mk (B8.out.trans (hb9.mono B8.out.size))
      clear hb9 B8
      go_wp2
      go_ret
      exact ⟨rfl, B9.out⟩
    · rw [HNP, if_neg h0]
      have e1 : (er != 0) = true := bne_iff_ne.2 h0
      clear HNP h0 HE ho4 hb4 b5 r5 z5 h45 k0 k1 k2 k3 l3 R3 B3 NW HL HLS HC HW HN HG
      go_wp2_with fail
      refine (awkS_any _).mono ?_
      rintro e W9 ⟨rfl, hb9⟩
      have B9 := Fact.mk (B5.out.trans (hb9.mono B5.out.size))
      clear hb9 B5
      go_wp2
      go_ret
      exact ⟨rfl, B9.out⟩
end Go.Proofs.Ytiogpainajokkaa

