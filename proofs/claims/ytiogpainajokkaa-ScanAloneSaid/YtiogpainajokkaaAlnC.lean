/- blockhouselaw16.ScanAlone's closure answers true of what it is told. -/
import Derived.Test.YtiogpainajokkaaPlyM
import Derived.Test.YtiogpainajokkaaSamP
namespace Go.Proofs.Ytiogpainajokkaa
open Go.RowKit
theorem ofB_next {k : Int} {vs : List GVar} {xs : List Int} (hl : vs.length = xs.length) {j : Nat} (h : j < vs.length) : (ofB k (vs.take (j + 1)) (xs.take (j + 1))).length = (ofB k (vs.take j) (xs.take j)).length + (if (vs[j]).cls = k then 1 else 0) := by
  rw [ofB_take hl h, List.length_append]
  by_cases hc : (vs[j]).cls = k
  · rw [if_pos hc, if_pos hc]; rfl
  · rw [if_neg hc, if_neg hc]; rfl
set_option maxHeartbeats 8000000 in
set_option maxRecDepth 100000 in
theorem cloA_any (c : GCode) (hw : c.Wf) (hn : (c.ins.length : Int) < 9223372036854775807) (vs bs is : Value) (w : World) (X : Nat) (h : CodeRd w c vs bs is) (h0 : (spotsB c).2.2 = 0)
    (hX : w.heap[X]? = some (.cells #[.string c.name, vs, bs, is] 26 (0, 0)))
    (W : World) (s s' : GPlant) (ins out : List Int) (n : Nat) (now e : Int) (V B V' B' I O : Value) (ht : Told w W c s s' ins out n now e V B V' B' I O) :
    Calls Try.prog 15 #[.agg #[V, B], .agg #[V', B'], I, O, .int .i64 n, .int .i64 now, .int .i64 e, .pointer (some ⟨X, 0, none⟩)] W fun e w' => e = .returned (.bool true) ∧ Below W.heap.size W w' := by
  obtain ⟨A1, c1, rfl⟩ : ∃ A c', vs = .slice A c.vars.length c' := by obtain ⟨_, A, c', h, _⟩ := h.vars; exact ⟨A, c', h⟩
  obtain ⟨A2, c2, rfl⟩ : ∃ A c', bs = .slice A c.blocks.length c' := by obtain ⟨_, A, c', h, _⟩ := h.blocks; exact ⟨A, c', h⟩
  obtain ⟨A3, c3, rfl⟩ : ∃ A c', is = .slice A c.ins.length c' := by obtain ⟨_, A, c', h, _⟩ := h.ins; exact ⟨A, c', h⟩
  have hrs := ht.rs
  have hrt := ht.rt
  have hro := ht.ro
  have hri := ht.ri
  obtain ⟨AV, cV, rfl⟩ : ∃ A c', V = .slice A s.vars.length c' := by obtain ⟨_, A, c', h, _⟩ := hrs.v; exact ⟨A, c', h⟩
  obtain ⟨AB, cB, rfl⟩ : ∃ A c', B = .slice A s.blocks.length c' := by obtain ⟨_, A, c', h, _⟩ := hrs.b; exact ⟨A, c', h⟩
  obtain ⟨AV', cV', rfl⟩ : ∃ A c', V' = .slice A s'.vars.length c' := by obtain ⟨_, A, c', h, _⟩ := hrt.v; exact ⟨A, c', h⟩
  obtain ⟨AB', cB', rfl⟩ : ∃ A c', B' = .slice A s'.blocks.length c' := by obtain ⟨_, A, c', h, _⟩ := hrt.b; exact ⟨A, c', h⟩
  obtain ⟨AO, cO, rfl⟩ : ∃ A c', O = .slice A out.length c' := by obtain ⟨_, A, c', h, _⟩ := hro; exact ⟨A, c', h⟩
  obtain ⟨AI, cI, rfl⟩ : ∃ A c', I = .slice A ins.length c' := by obtain ⟨_, A, c', h, _⟩ := hri; exact ⟨A, c', h⟩
  obtain ⟨l, hl⟩ := ht.hin
  have hok := scan_ok h0 ht.fits l ht.n1 ht.n2
  rw [← hl, ht.scan] at hok
  have OK := Fact.mk hok
  obtain ⟨b2, r2, r3, z2⟩ := two_blocks W (.cells #[.slice AV s.vars.length cV, .slice AB s.blocks.length cB] 34) (.cells #[.slice AV' s'.vars.length cV', .slice AB' s'.blocks.length cB'] 34)
  have bW := ht.bel.trans (b2.mono ht.bel.size)
  have kX := (bW.block X (Array.getElem?_eq_some_iff.1 hX).1).trans hX
  have KX := Fact.mk kX
  obtain ⟨k0, k1, k2, k3⟩ : _ ∧ _ ∧ _ ∧ _ := ⟨cell_of_row _ _ 0 _ _ _ kX, cell_of_row _ _ 1 _ _ _ kX, cell_of_row _ _ 2 _ _ _ kX, cell_of_row _ _ 3 _ _ _ kX⟩
  have lX := World.block_lt_of_cell? _ _ k0
  have B2 := Fact.mk b2
  have R2 := Fact.mk r2
  have R3 := Fact.mk r3
  have L2 : W.heap.size + 1 < ((W.alloc (.cells #[.slice AV s.vars.length cV, .slice AB s.blocks.length cB] 34)).alloc (.cells #[.slice AV' s'.vars.length cV', .slice AB' s'.blocks.length cB'] 34)).heap.size := by rw [z2]; omega
  have hsh := fits_short h0 ht.fits
  have SC := Fact.mk (scan_any c hw hn s ins now _ _ _ _ _ _ _ (h.below bW) (hrs.below b2) (hri.below b2) hsh.1 hsh.2.1)
  rw [ht.scan] at SC
  have SP := Fact.mk (fun W2 (hb : Below W.heap.size W W2) V2 B2 (hp : PlRd W2 s' V2 B2) => psame_any s' _ _ _ _ W2 (hrt.below hb) hp)
  have SM := Fact.mk (fun W2 (hb : Below W.heap.size W W2) O2 (hp : Rd oneI64 1 W2 O2 out) => same64_any W2 _ _ _ _ (hro.below hb) hp)
  rw [decide_eq_true (rfl : out = out)] at SM
  have HV := Fact.mk (h.below ht.bel).vars
  have RT := Fact.mk hrt.v
  have RO := Fact.mk hro
  have RI := Fact.mk hri
  have HL := Fact.mk (And.intro (fits_len hok.fits).1 hsh.2.2)
  clear hX ht hrs hrt hro hri hl hok b2 r2 r3 z2 bW kX h hw hn h0 hsh
  go_enter Try.func15, Try.ntmps15
  go_upto_region 1 with (fail)
  generalize (W.alloc (.cells #[.slice AV s.vars.length cV, .slice AB s.blocks.length cB] 34)).alloc (.cells #[.slice AV' s'.vars.length cV', .slice AB' s'.blocks.length cB'] 34) = w2 at *
  have u0 : w2.cell? ⟨W.heap.size, 0, none⟩ = some (.slice AV s.vars.length cV) := cell_of_row _ _ 0 _ _ _ R2.out
  have u1 : w2.cell? ⟨W.heap.size, 1, none⟩ = some (.slice AB s.blocks.length cB) := cell_of_row _ _ 1 _ _ _ R2.out
  have v0 : w2.cell? ⟨W.heap.size + 1, 0, none⟩ = some (.slice AV' s'.vars.length cV') := cell_of_row _ _ 0 _ _ _ R3.out
  have v1 : w2.cell? ⟨W.heap.size + 1, 1, none⟩ = some (.slice AB' s'.blocks.length cB') := cell_of_row _ _ 1 _ _ _ R3.out
  go_wp2_with fail
  refine SC.out.mono ?_
  rintro e W3 ⟨V3, B3, O3, rfl, ho3, hO3, hb3⟩
  obtain ⟨AV3, nV3, cV3, rfl⟩ := ho3.v.slice
  obtain ⟨AB3, nB3, cB3, rfl⟩ := ho3.b.slice
  obtain ⟨AO3, nO3, cO3, rfl⟩ := hO3.slice
  obtain ⟨b4, r4, z4⟩ := one_block W3 (.cells #[.slice AV3 nV3 cV3, .slice AB3 nB3 cB3] 34)
  have hb34 := hb3.trans (b4.mono hb3.size)
  have B4 := Fact.mk (B2.out.trans (hb34.mono B2.out.size))
  have P4 := Fact.mk (ho3.below b4).rd
  have Q4 := Fact.mk ((hO3.below b4).rd oneI64_len)
  replace k1 := cell_below hb34 _ _ k1
  replace v0 := cell_below hb34 _ _ v0
  replace v1 := cell_below hb34 _ _ v1
  replace lX := Nat.lt_of_lt_of_le lX hb34.size
  replace L2 := Nat.lt_of_lt_of_le L2 hb34.size
  have t0 := cell_of_row _ _ 0 _ _ _ r4
  have t1 := cell_of_row _ _ 1 _ _ _ r4
  have l4 : W3.heap.size < (W3.alloc (.cells #[.slice AV3 nV3 cV3, .slice AB3 nB3 cB3] 34)).heap.size := by rw [z4]; omega
  clear k0 k2 k3 u0 u1 ho3 hO3 hb3 hb34 b4 r4 z4 SC R2 R3 KX B2
  go_upto_region 2 with (fail)
  generalize W3.alloc (.cells #[.slice AV3 nV3 cV3, .slice AB3 nB3 cB3] 34) = w4 at *
  have CP := Fact.mk (SP.out _ B4.out _ _ P4.out)
  go_wp2_with fail
  refine CP.out.mono ?_
  rintro e W5 ⟨rfl, hb5⟩
  have B5 := Fact.mk (B4.out.trans (hb5.mono B4.out.size))
  have CM := Fact.mk (SM.out _ B5.out _ (Q4.out.below hb5))
  replace k1 := cell_below hb5 _ _ k1
  replace v0 := cell_below hb5 _ _ v0
  replace lX := Nat.lt_of_lt_of_le lX hb5.size
  replace L2 := Nat.lt_of_lt_of_le L2 hb5.size
  clear hb5 t0 t1 l4 v1 CP SP P4 Q4 B4
  go_wp2_with fail
  refine CM.out.mono ?_
  rintro e W6 ⟨rfl, hb6⟩
  have B6 := Fact.mk (B5.out.trans (hb6.mono B5.out.size))
  replace k1 := cell_below hb6 _ _ k1
  replace v0 := cell_below hb6 _ _ v0
  replace lX := Nat.lt_of_lt_of_le lX hb6.size
  replace L2 := Nat.lt_of_lt_of_le L2 hb6.size
  clear hb6 CM SM B5
  by_cases he : e = 0
  · subst he
    have RD := Fact.mk (OK.out.reads rfl)
    have OU := Fact.mk (OK.out.outs rfl)
    clear OK
    go_wp2_with fail
    go_loopw [20, 21, 59] (fun kk oo i wr => ∃ j : Nat, j ≤ c.vars.length ∧ i = .int .i64 j ∧ kk = .int .i64 ((ofB 1 (c.vars.take j) (s'.vars.take j)).length : Int) ∧ oo = .int .i64 ((ofB 2 (c.vars.take j) (s'.vars.take j)).length : Int) ∧ Fact (Below W6.heap.size W6 wr)) (fun _ _ i _ => c.vars.length - (intOf i).toNat)
    case atStart => exact ⟨0, Nat.zero_le _, rfl, by simp [ofB], by simp [ofB], ⟨Below.refl _ _⟩⟩
    case round =>
      obtain ⟨j, hj, rfl, rfl, rfl, HB⟩ := hrel
      by_cases hlt : j < c.vars.length
      · have hl2 : j < s'.vars.length := by have := HL.out.1; omega
        have HB' := B6.out.trans (HB.out.mono B6.out.size)
        obtain ⟨b1, o1, hA1, d0, d1, d2, d3⟩ : ∃ b o, A1 = some ⟨b, o, none⟩ ∧ wr.cell? ⟨b, o + j * 4, none⟩ = some (.string c.vars[j].name) ∧ wr.cell? ⟨b, o + j * 4 + 1, none⟩ = some (.int .u8 c.vars[j].cls) ∧ wr.cell? ⟨b, o + j * 4 + 2, none⟩ = some (.int .u8 c.vars[j].ty) ∧ wr.cell? ⟨b, o + j * 4 + 3, none⟩ = some (.int .i64 c.vars[j].first) := by
          obtain ⟨_, A, c', e, _, _, q1⟩ := HV.out
          cases e
          obtain ⟨b1, o1, rfl, r1⟩ := q1 (by omega)
          exact ⟨b1, o1, rfl, cell_below HB' _ _ (r1 j hlt 0 _ rfl), cell_below HB' _ _ (r1 j hlt 1 _ rfl), cell_below HB' _ _ (r1 j hlt 2 _ rfl), cell_below HB' _ _ (r1 j hlt 3 _ rfl)⟩
        subst hA1
        obtain ⟨bv, ov, cv, e, hx⟩ := rd_at64 (RT.out.below HB') j hl2
        cases e
        obtain ⟨x, hxe⟩ : ∃ x, s'.vars.getD j 0 = x := ⟨_, rfl⟩
        rw [hxe] at hx
        have lv := World.block_lt_of_cell? wr _ hx
        have i1 : (j : Int) < (c.vars.length : Int) := by omega
        have i2 : (j : Int) < (s'.vars.length : Int) := by omega
        have NX : Fact (j + 1 ≤ c.vars.length) := ⟨hlt⟩
        have a1 := ofB_at 1 c.vars s'.vars j hlt HL.out.1
        have a2 := ofB_at 2 c.vars s'.vars j hlt HL.out.1
        have n1 := ofB_next (k := 1) HL.out.1 hlt
        have n2 := ofB_next (k := 2) HL.out.1 hlt
        have m1 := ofB_len 1 (c.vars.take j) (s'.vars.take j)
        have m2 := ofB_len 2 (c.vars.take j) (s'.vars.take j)
        rw [List.length_take] at m1 m2
        rw [RD.out, hxe] at a1
        rw [← OU.out, hxe] at a2
        have N1 := Fact.mk n1
        have N2 := Fact.mk n2
        generalize (ofB 1 (c.vars.take j) (s'.vars.take j)).length = K at *
        generalize (ofB 2 (c.vars.take j) (s'.vars.take j)).length = M at *
        have sh := HL.out.2
        have ek : IntKind.i64.wrap ((K : Int) + 1) = ((K + 1 : Nat) : Int) := by rw [i64_small (by omega) (by omega)]; omega
        have em : IntKind.i64.wrap ((M : Int) + 1) = ((M + 1 : Nat) : Int) := by rw [i64_small (by omega) (by omega)]; omega
        have BV := Fact.mk (one_block wr (.cells #[.string c.vars[j].name, .int .u8 c.vars[j].cls, .int .u8 c.vars[j].ty, .int .i64 c.vars[j].first] 43))
        replace k1 := cell_below HB.out _ _ k1
        replace v0 := cell_below HB.out _ _ v0
        replace lX := Nat.lt_of_lt_of_le lX HB.out.size
        replace L2 := Nat.lt_of_lt_of_le L2 HB.out.size
        have HBF := Fact.mk HB'
        clear n1 n2 m1 m2 HB' hxe hl2 hj
        go_upto_region 10 with (fail)
        have g1 := cell_of_row _ _ 1 _ _ _ BV.out.2.1
        have lg : wr.heap.size < (wr.alloc (.cells #[.string c.vars[j].name, .int .u8 c.vars[j].cls, .int .u8 c.vars[j].ty, .int .i64 c.vars[j].first] 43)).heap.size := by rw [BV.out.2.2]; omega
        have B9 := Fact.mk (HB.out.trans (BV.out.1.mono HB.out.size))
        have H9 := HBF.out.trans (BV.out.1.mono HBF.out.size)
        replace hx := cell_below BV.out.1 _ _ hx
        replace v0 := cell_below BV.out.1 _ _ v0
        replace lv := World.block_lt_of_cell? _ _ hx
        replace L2 := Nat.lt_of_lt_of_le L2 BV.out.1.size
        have ri := RI.out.below H9
        have ro := RO.out.below H9
        clear d0 d1 d2 d3 k1 lX HB HBF BV H9
        generalize wr.alloc (.cells #[.string c.vars[j].name, .int .u8 c.vars[j].cls, .int .u8 c.vars[j].ty, .int .i64 c.vars[j].first] 43) = w9 at *
        by_cases hc : c.vars[j].cls = 1
        · have e1 : (c.vars[j].cls == 1) = true := beq_iff_eq.2 hc
          rw [if_pos hc] at N1
          rw [if_neg (by omega)] at N2
          obtain ⟨p1, p2⟩ := a1 hc
          obtain ⟨bi, oi, ci, e, hy⟩ := rd_at64 ri K p2
          cases e
          rw [p1] at hy
          have lb := World.block_lt_of_cell? w9 _ hy
          have i3 : (K : Int) < (ins.length : Int) := by omega
          clear a1 a2 p1 p2 hc ri ro
          go_wp2_with fail
          go_region
          go_wp2_with fail
          go_roundw
          case rel => exact ⟨j + 1, NX.out, by go_num, by rw [N1.out]; simp, by rw [N2.out]; rfl, ⟨B9.out.drew⟩⟩
          case measure => simp [intOf]; omega
        · have e1 : (c.vars[j].cls == 1) = false := beq_eq_false_iff_ne.2 hc
          rw [if_neg hc] at N1
          by_cases hc2 : c.vars[j].cls = 2
          · have e2 : (c.vars[j].cls == 2) = true := beq_iff_eq.2 hc2
            rw [if_pos hc2] at N2
            obtain ⟨p1, p2⟩ := a2 hc2
            obtain ⟨bi, oi, ci, e, hy⟩ := rd_at64 ro M p2
            cases e
            rw [p1] at hy
            have lb := World.block_lt_of_cell? w9 _ hy
            have i3 : (M : Int) < (out.length : Int) := by omega
            have i4 : decide ((out.length : Int) ≤ (M : Int)) = false := decide_eq_false (by omega)
            have i5 : decide (out.length ≤ M) = false := decide_eq_false (by omega)
            clear a1 a2 p1 p2 hc hc2 ri ro
            go_wp2_with fail
            go_region
            go_wp2_with fail
            go_roundw
            case rel => exact ⟨j + 1, NX.out, by go_num, by rw [N1.out]; rfl, by rw [N2.out]; simp, ⟨B9.out.drew⟩⟩
            case measure => simp [intOf]; omega
          · have e2 : (c.vars[j].cls == 2) = false := beq_eq_false_iff_ne.2 hc2
            rw [if_neg hc2] at N2
            clear a1 a2 hc hc2 ri ro
            go_wp2_with fail
            go_roundw
            case rel => exact ⟨j + 1, NX.out, by go_num, by rw [N1.out]; rfl, by rw [N2.out]; rfl, B9⟩
            case measure => simp [intOf]; omega
      · obtain rfl : j = c.vars.length := by omega
        have BF := Fact.mk (B6.out.trans (HB.out.mono B6.out.size))
        clear HB B6
        go_wp2_with fail
        go_ret
        exact ⟨rfl, BF.out⟩
  · have e1 : (e != 0) = true := bne_iff_ne.2 he
    clear he OK HV RT RO RI
    go_wp2
    go_ret
    exact ⟨rfl, B6.out⟩
end Go.Proofs.Ytiogpainajokkaa

