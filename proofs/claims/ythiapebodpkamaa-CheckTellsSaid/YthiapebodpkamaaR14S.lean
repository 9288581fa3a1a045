/- Contract of blockhouseref14.Spots. Printed by gen_r14s.py. -/
import Derived.Test.YthiapebodpkamaaR14M
import Derived.Test.YthiapebodpkamaaRfR
import Derived.Test.YthiapebodpkamaaReg
import Derived.Deep.QuietTactic
import Derived.BigQuiet
namespace Go.Proofs.Ythiapebodpkamaa
open Go.RowKit
set_option maxRecDepth 100000 in
set_option maxHeartbeats 8000000 in
theorem rSpots_any (c : GCode) (hw : c.Wf) (hn : (c.ins.length : Int) < 9223372036854775807) (vs bs is : Value) (w : World) (h : CodeRd w c vs bs is) :
    Calls Try.prog 21 #[.agg #[.string c.name, vs, bs, is]] w (SpotsPost c w) := by
  obtain ⟨A1, c1, rfl⟩ : ∃ A c', vs = .slice A c.vars.length c' := by obtain ⟨_, A, c', h, _⟩ := h.vars; exact ⟨A, c', h⟩
  obtain ⟨A2, c2, rfl⟩ : ∃ A c', bs = .slice A c.blocks.length c' := by obtain ⟨_, A, c', h, _⟩ := h.blocks; exact ⟨A, c', h⟩
  obtain ⟨A3, c3, rfl⟩ : ∃ A c', is = .slice A c.ins.length c' := by obtain ⟨_, A, c', h, _⟩ := h.ins; exact ⟨A, c', h⟩
  obtain ⟨hb0, s0, z0⟩ := one_block w (.cells #[.string c.name, .slice A1 c.vars.length c1, .slice A2 c.blocks.length c2, .slice A3 c.ins.length c3] 32)
  have HRT := Fact.mk (refRight_any c hw _ _ _ _ (h.below hb0) _ rfl)
  have HB0 := Fact.mk hb0
  have S0 := Fact.mk s0
  have H := Fact.mk h
  obtain ⟨k0, k1, k2, k3⟩ := sc_row4 s0
  clear h hb0 hw
  cases hR : rightB c with
  | false =>
    have he : spotsB c = ([], 0, 130) := by unfold spotsB; rw [hR]; rfl
    unfold SpotsPost
    rw [he]
    rw [hR] at HRT
    clear he hR
    go_enter Try.func21, Try.ntmps21
    go_wp2_with fail
    refine HRT.out.mono ?_
    rintro e W1 ⟨rfl, hb1⟩
    have B1 := Fact.mk (HB0.out.trans (hb1.mono HB0.out.size))
    clear hb1
    go_wp2_with fail
    go_ret3
    exact ⟨_, rfl, .inl ⟨rfl, rfl⟩, B1.out⟩
  | true =>
    have RP := Fact.mk hR
    rw [hR] at HRT
    clear hR
    have hlen := (right_parts RP.out).2.2.2.2.1
    have hlen1 := (right_parts RP.out).2.2.2.1
    have HI := Fact.mk (ins_ok RP.out)
    have HM := Fact.mk hlen
    go_enter Try.func21, Try.ntmps21
    go_wp2_with fail
    refine HRT.out.mono ?_
    rintro e W1 ⟨rfl, hb1⟩
    have B1 := Fact.mk hb1
    have S1 := Fact.mk ((hb1.block w.heap.size (by rw [z0]; omega)).trans S0.out)
    have hl1 : w.heap.size < W1.heap.size := by have := hb1.size; rw [z0] at this; omega
    clear k0 k1 k2 k3
    obtain ⟨k0, k1, k2, k3⟩ := sc_row4 S1.out
    clear hb1 HRT
    have hmk : ∀ W, (Instr.makeSlice 44 (.int .i64 ((c.ins.length : Int) + 1)) (.int .i64 ((c.ins.length : Int) + 1))).run Try.prog W = .ok (.slice (some ⟨W.heap.size, 0, none⟩) (c.ins.length + 1) (c.ins.length + 1)) (W.alloc (.cells (spRow (c.ins.length + 1)) 52)) := fun W => run_spots (c.ins.length + 1) (by omega) W
    go_upto_region 5 with (fail)
    clear hmk k0 k1 k2
    obtain ⟨t1, t2, t4⟩ := one_block W1 (Obj.cells (spRow (c.ins.length + 1)) 52)
    obtain ⟨W2, hW2⟩ : ∃ W2, W1.alloc (Obj.cells (spRow (c.ins.length + 1)) 52) = W2 := ⟨_, rfl⟩
    rw [hW2]
    rw [hW2] at t1 t2
    have T1 := Fact.mk t1
    have T2 := Fact.mk t2
    have cz : W2.cell? ⟨W1.heap.size, 0, none⟩ = some (.bool false) := by rw [cell_of_row _ _ 0 _ _ _ t2]; unfold spRow; rw [List.replicate_succ, List.flatMap_cons]; rfl
    have f0 : W2.frozen? ⟨W1.heap.size, 0, none⟩ = false := frozen_of_row W2 W1.heap.size 0 _ _ t2
    have hp1 : (0 : Int) < (c.ins.length : Int) + 1 := by omega
    clear t1 t2 t4 hW2 k3
    go_upto_region 6 with (fail)
    obtain ⟨S, hS⟩ : ∃ S, W1.heap.size = S := ⟨_, rfl⟩
    obtain ⟨W, hW⟩ : ∃ W, W2.setCell ⟨W1.heap.size, 0, none⟩ (.bool true) = W := ⟨_, rfl⟩
    have HS : Fact (RSp w W S c A1 A2 A3 c1 c2 c3 0 (start c.ins.length)) := ⟨by
      subst hS
      have hb : Below w.heap.size w W := by
        rw [← hW]
        exact ((HB0.out.trans (B1.out.mono HB0.out.size)).trans (T1.out.mono (by omega))).setCell (by show _ ≤ W1.heap.size; omega) _
      refine ⟨H.out, ?_, hb, hl1, plc_new T2.out (by rw [hW]), plc_start c, by omega, RP.out, by rw [Nat.sub_zero]⟩
      rw [← hW, heap_setCell_other W2 ⟨W1.heap.size, 0, none⟩ w.heap.size _ (by show w.heap.size ≠ W1.heap.size; omega), T1.out.block _ hl1]
      exact S1.out⟩
    rw [hW, hS]
    clear z0 s0 hW hS cz f0 hp1 hl1 T1 T2 B1 S1 HB0 S0
    go_wp2_with fail
    go_loopw [7] (fun i wr => ∃ (k : Nat) (ss : List GSpot), k ≤ c.ins.length + 1 ∧ i = .int .i64 k ∧ Fact (RSp w wr S c A1 A2 A3 c1 c2 c3 k ss)) (fun i _ => c.ins.length + 1 - (intOf i).toNat)
    case atStart => exact ⟨0, _, Nat.zero_le _, rfl, HS⟩
    case round =>
      clear HS
      obtain ⟨k, ss, hk, rfl, R⟩ := hrel
      by_cases hlt : k ≤ c.ins.length
      · have hss := R.out.ok.len
        obtain ⟨v, x0, x1, x2, hr, hne, -, -, -⟩ := R.out.pl.at k (by omega)
        obtain ⟨k0, k1, k2, k3⟩ := sc_row4 R.out.row
        obtain ⟨st, hst⟩ : ∃ st, (spotAt ss k).stack = st := ⟨_, rfl⟩
        obtain ⟨rc, hrc⟩ : ∃ rc, (spotAt ss k).reached = rc := ⟨_, rfl⟩
        obtain ⟨m, hmx⟩ : ∃ m, (spotAt ss k).steps = m := ⟨_, rfl⟩
        have m0 := R.out.ok.lo k
        have m1 := R.out.ok.hi k
        have r64 := R.out.ok.room k
        rw [hst] at hr r64
        rw [hrc] at x0
        rw [hmx] at x2 m0 m1
        obtain ⟨B, sl, b0, rfl, hsl⟩ : ∃ B sl b0, v = .slice B sl b0 ∧ st.length = sl := by
          obtain ⟨_, A, a0, e, _⟩ := hr
          exact ⟨A, _, a0, e, rfl⟩
        rw [hsl] at r64
        have hS := R.out.pl.lt
        have hw0 : w.heap.size < wr.heap.size := World.block_lt_of_cell? _ _ k0
        obtain ⟨hb2, s2, z2⟩ := one_block wr (Obj.cells #[.bool rc, .slice B sl b0, .int .i64 m] 52)
        have ST := Fact.mk (And.intro hst (And.intro hrc (And.intro hmx hsl)))
        have HR := Fact.mk (hr.below hb2)
        have R2 := Fact.mk (R.out.below hb2)
        have S2 := Fact.mk s2
        have NE := Fact.mk hne
        have HL := Fact.mk hss
        have hk1 : (k : Int) < (c.ins.length : Int) + 1 := by omega
        have hlt2 : (k : Int) ≤ (c.ins.length : Int) := by omega
        clear hst hrc hmx hsl hr hne hss hb2 s2 R z2
        go_upto_region 10 with (fail)
        clear x0 x1 x2 k0 k1 k2 k3
        obtain ⟨g, hg⟩ : ∃ g, wr.heap.size = g := ⟨_, rfl⟩
        have hg2 : g < (wr.alloc (.cells #[.bool rc, .slice B sl b0, .int .i64 m] 52)).heap.size := by rw [(one_block wr _).2.2, hg]; omega
        rw [hg] at S2 hS hw0
        rw [hg]
        generalize wr.alloc (.cells #[.bool rc, .slice B sl b0, .int .i64 m] 52) = W1 at *
        have v0 : W1.cell? ⟨g, 0, none⟩ = some (.bool rc) := by rw [cell_of_row _ _ 0 _ _ _ S2.out]; rfl
        have v1 : W1.cell? ⟨g, 1, none⟩ = some (.slice B sl b0) := by rw [cell_of_row _ _ 1 _ _ _ S2.out]; rfl
        have v2 : W1.cell? ⟨g, 2, none⟩ = some (.int .i64 m) := by rw [cell_of_row _ _ 2 _ _ _ S2.out]; rfl
        clear hg
        cases rc with
        | false =>
          go_wp2_with fail
          go_roundw
          case rel => exact ⟨k + 1, ss, by omega, by go_num, ⟨R2.out.stay (by unfold stepAt; rw [ST.out.2.1]; rfl) hlt (Below.refl _ _)⟩⟩
          case measure => simp [intOf]; omega
        | true =>
          have SA : Fact (stepAt c ss k = oneB c ss k) := ⟨by unfold stepAt; rw [ST.out.2.1]; rfl⟩
          by_cases hkn : k = c.ins.length
          · have e1 : ((k : Int) == (c.ins.length : Int)) = true := beq_iff_eq.2 (by omega)
            have OB : Fact (oneB c ss k = (ss, if 0 < sl then 140 else 0)) := ⟨by
              unfold oneB
              rw [List.getElem?_eq_none (by omega), ST.out.1, ST.out.2.2.2]⟩
            have HKN := Fact.mk hkn
            clear hkn
            by_cases hs0 : 0 < sl
            · have e2 : decide ((0 : Int) < (sl : Int)) = true := decide_eq_true (by omega)
              have e3 : (0 : Int) < (sl : Int) := by omega
              go_wp2_with fail
              go_ret3
              exact R2.out.bad hlt (by rw [SA.out, OB.out, if_pos hs0]) (by decide) R2.out.bel
            · have e2 : decide ((0 : Int) < (sl : Int)) = false := decide_eq_false (by omega)
              have HS0 := Fact.mk hs0
              clear hs0
              obtain rfl : sl = 0 := by have := of_decide_eq_false e2; omega
              clear e2
              go_wp2_with fail
              go_ret3
              have hke := HKN.out
              have := R2.out.stay (by rw [SA.out, OB.out, if_neg HS0.out]) hlt (Below.refl _ _)
              rw [hke] at this
              have := this.fin
              rw [HL.out] at this
              exact this
          · have e1 : ((k : Int) == (c.ins.length : Int)) = false := beq_eq_false_iff_ne.2 (by omega)
            have hkl : k < c.ins.length := by omega
            obtain ⟨bi, oi, hbo, hx⟩ := rd_cell4 (R2.out.old.ins.below R2.out.bel) k hkl
            subst hbo
            obtain ⟨x, hxx⟩ : ∃ x, c.ins[k]'hkl = x := ⟨_, rfl⟩
            have hIx := HI.out k hkl
            rw [hxx] at hx hIx
            obtain ⟨op, t, a, nn⟩ := x
            have i0 : W1.cell? ⟨bi, oi + k * 4, none⟩ = some (.int .u8 op) := hx 0 _ rfl
            have i1 : W1.cell? ⟨bi, oi + k * 4 + 1, none⟩ = some (.int .u8 t) := hx 1 _ rfl
            have i2 : W1.cell? ⟨bi, oi + k * 4 + 2, none⟩ = some (.int .i64 a) := hx 2 _ rfl
            have i3 : W1.cell? ⟨bi, oi + k * 4 + 3, none⟩ = some (.int .i64 nn) := hx 3 _ rfl
            have OB : Fact (oneB c ss k = oneIns ⟨op, t, a, nn⟩ (spotAt ss k) k (effB c ⟨op, t, a, nn⟩ (spotAt ss k).stack) ss) := ⟨oneB_ins (by rw [List.getElem?_eq_getElem hkl, hxx])⟩
            have HI2 := Fact.mk hIx
            have hkc : (k : Int) < (c.ins.length : Int) := by omega
            obtain ⟨k0, k1, k2, k3⟩ := sc_row4 R2.out.row
            have lbi := World.block_lt_of_cell? _ _ i0
            have hgw : w.heap.size < W1.heap.size := by omega
            clear hx hxx hIx hkn hk1
            go_upto_region 15 with (fail)
            clear i0 i1 i2 i3 v0 v1 v2 k0 k1 k2 k3
            obtain ⟨g9, hg9⟩ : ∃ g, W1.heap.size = g := ⟨_, rfl⟩
            obtain ⟨hb4, s4, z4⟩ := one_block W1 (Obj.cells #[.int .u8 op, .int .u8 t, .int .i64 a, .int .i64 nn] 38)
            have R3 := Fact.mk (R2.out.below hb4)
            have HR3 := Fact.mk (HR.out.below hb4)
            have S3 := Fact.mk ((hb4.block g hg2).trans S2.out)
            rw [hg9] at s4 hg2
            have I4 := Fact.mk s4
            have lt9 : g9 < (W1.alloc (.cells #[.int .u8 op, .int .u8 t, .int .i64 a, .int .i64 nn] 38)).heap.size := by rw [z4, hg9]; omega
            rw [hg9]
            clear hb4 s4 z4 R2 HR S2 lbi hgw hg9
            generalize W1.alloc (.cells #[.int .u8 op, .int .u8 t, .int .i64 a, .int .i64 nn] 38) = W2 at *
            obtain ⟨j0, j1, j2, j3⟩ := sc_row4 I4.out
            obtain ⟨k0, k1, k2, k3⟩ := sc_row4 R3.out.row
            have v1 : W2.cell? ⟨g, 1, none⟩ = some (.slice B sl b0) := by rw [cell_of_row _ _ 1 _ _ _ S3.out]; rfl
            have v2 : W2.cell? ⟨g, 2, none⟩ = some (.int .i64 m) := by rw [cell_of_row _ _ 2 _ _ _ S3.out]; rfl
            obtain ⟨J, hJ⟩ : ∃ J, jumpsB ⟨op, t, a, nn⟩ = J := ⟨_, rfl⟩
            have HJ := Fact.mk hJ
            clear hJ
            go_cut [10] from 55 to 62 (fun s wx => s = .bool J ∧ wx = W2)
            case first =>
              cases o18 : (op == 18) with
              | true =>
                obtain rfl : J = true := by rw [← HJ.out]; unfold jumpsB; rw [decide_eq_true (beq_iff_eq.1 o18)]; rfl
                go_wp2_with fail
                go_meet
                exact ⟨rfl, rfl⟩
              | false =>
                cases o19 : (op == 19) with
                | true =>
                  obtain rfl : J = true := by rw [← HJ.out]; unfold jumpsB; rw [decide_eq_true (beq_iff_eq.1 o19 : op = 19), Bool.or_true]
                  go_wp2_with fail
                  go_meet
                  exact ⟨rfl, rfl⟩
                | false =>
                  obtain rfl : J = false := by rw [← HJ.out]; unfold jumpsB; rw [decide_eq_false (beq_eq_false_iff_ne.1 o18 : ¬ op = 18), decide_eq_false (beq_eq_false_iff_ne.1 o19 : ¬ op = 19)]; rfl
                  go_wp2_with fail
                  go_meet
                  exact ⟨rfl, rfl⟩
            case rest =>
              obtain ⟨rfl, hw⟩ := hcut
              have hw2 := hw.symm
              subst hw2
              obtain ⟨bb, hbb⟩ : ∃ b, (J && decide (a ≤ (k : Int))) = b := ⟨_, rfl⟩
              have HBB := Fact.mk hbb
              clear hbb
              go_upto_region 16 with (fail)
              go_cut [69] from 63 to 68 (fun s wx => s = .bool bb ∧ wx = W2)
              case first =>
                cases J with
                | false =>
                  obtain rfl : bb = false := by rw [← HBB.out]; rfl
                  go_wp2_with fail
                  go_meet
                  exact ⟨rfl, rfl⟩
                | true =>
                  cases ak : decide (a ≤ (k : Int)) with
                  | true =>
                    obtain rfl : bb = true := by rw [← HBB.out, ak]; rfl
                    go_wp2_with fail
                    go_meet
                    exact ⟨rfl, rfl⟩
                  | false =>
                    obtain rfl : bb = false := by rw [← HBB.out, ak]; rfl
                    go_wp2_with fail
                    go_meet
                    exact ⟨rfl, rfl⟩
              case rest =>
                obtain ⟨rfl, hw⟩ := hcut
                have hw2 := hw.symm
                subst hw2
                cases bb with
                | true =>
                  go_wp2_with fail
                  go_ret3
                  exact R3.out.bad hlt (by rw [SA.out, OB.out, one_back (by rw [HJ.out]; exact HBB.out)]) (by decide) R3.out.bel
                | false =>
                  obtain ⟨e, he⟩ : ∃ e, effB c ⟨op, t, a, nn⟩ st = e := ⟨_, rfl⟩
                  have hpl : e.2.length ≤ 2 := by rw [← he]; exact eff_len _ _ _
                  have htl5 : e.1.length ≤ 5 := by rw [← he]; exact eff_len1 _ _ _
                  have HE := rEff_any _ c _ _ _ _ ⟨op, t, a, nn⟩ st (R3.out.old.below R3.out.bel) HR3.out HI2.out.2 HI2.out.1
                  rw [he] at HE
                  have OB2 : Fact (oneB c ss k = oneIns ⟨op, t, a, nn⟩ (spotAt ss k) k e ss) := ⟨by rw [OB.out, ST.out.1, he]⟩
                  have HB1 : Fact ((jumpsB ⟨op, t, a, nn⟩ && decide (a ≤ (k : Int))) = false) := ⟨by rw [HJ.out]; exact HBB.out⟩
                  clear he OB HBB
                  go_wp2_with fail
                  refine HE.mono ?_
                  rintro e3 W3 ⟨y1, y2, rfl, r1, r2, hb3⟩
                  obtain ⟨P1, tl, a1', rfl, htl⟩ : ∃ A q a', y1 = .slice A q a' ∧ e.1.length = q := by
                    obtain ⟨_, A, a', e, _⟩ := r1
                    exact ⟨A, _, a', e, rfl⟩
                  obtain ⟨P2, pl, a2', rfl, hpl2⟩ : ∃ A q a', y2 = .slice A q a' ∧ e.2.length = q := by
                    obtain ⟨_, A, a', e, _⟩ := r2
                    exact ⟨A, _, a', e, rfl⟩
                  rw [hpl2] at hpl
                  rw [htl] at htl5
                  have R4 := Fact.mk (R3.out.below hb3)
                  have HR4 := Fact.mk (HR3.out.below hb3)
                  have S4 := Fact.mk ((hb3.block g (by omega)).trans S3.out)
                  have I5 := Fact.mk ((hb3.block g9 lt9).trans I4.out)
                  have lt3 : g9 < W3.heap.size := Nat.lt_of_lt_of_le lt9 hb3.size
                  have Q1 := Fact.mk r1
                  have Q2 := Fact.mk r2
                  have TL := Fact.mk htl
                  have PL := Fact.mk hpl2
                  clear j0 j1 j2 j3 k0 k1 k2 k3 v1 v2 HE r1 r2 htl hpl2 hb3 R3 HR3 S3 I4 lt9
                  have v1 : W3.cell? ⟨g, 1, none⟩ = some (.slice B sl b0) := by rw [cell_of_row _ _ 1 _ _ _ S4.out]; rfl
                  by_cases hts : tl ≤ sl
                  case neg =>
                    have z1 : (sl : Int) - (tl : Int) < 0 := by omega
                    go_wp2_with fail
                    go_ret3
                    exact R4.out.bad hlt (by rw [SA.out, OB2.out, one_take HB1.out (by rw [ST.out.1]; unfold takesOk; rw [ST.out.2.2.2, TL.out, decide_eq_false hts]; rfl)]) (by decide) R4.out.bel
                  obtain ⟨d, rfl⟩ : ∃ d, sl = d + tl := ⟨sl - tl, by omega⟩
                  clear hts
                  obtain ⟨q, hq⟩ : ∃ q, decide (st.drop d = e.1) = q := ⟨_, rfl⟩
                  have HQ := Fact.mk hq
                  have TK : Fact (takesOk (spotAt ss k).stack e.1 = q) := ⟨by
                    rw [ST.out.1]; unfold takesOk
                    rw [ST.out.2.2.2, TL.out, decide_eq_true (by omega : tl ≤ d + tl), Nat.add_sub_cancel, hq]; rfl⟩
                  clear hq
                  have hbc : d + tl ≤ b0 := by
                    obtain ⟨_, _, _, e, h, _⟩ := HR4.out
                    injection e with _ e2 e3
                    omega
                  have hT := run_tailS W3 B (d + tl) b0 d (by omega)
                  have EQ := rsame_any W3 _ _ _ _ (HR4.out.tail d (by omega)) Q1.out
                  rw [HQ.out] at EQ
                  go_wp2_with fail
                  refine EQ.mono ?_
                  rintro e4 W4 ⟨rfl, hb4⟩
                  clear EQ hT
                  have R5 := Fact.mk (R4.out.below hb4)
                  have HR5 := Fact.mk (HR4.out.below hb4)
                  have S5 := Fact.mk ((hb4.block g (by omega)).trans S4.out)
                  have I6 := Fact.mk ((hb4.block g9 lt3).trans I5.out)
                  have lt4 : g9 < W4.heap.size := Nat.lt_of_lt_of_le lt3 hb4.size
                  have Q3 := Fact.mk (Q2.out.below hb4)
                  clear v1 HR4 S4 I5 lt3 Q1 Q2 hb4
                  cases q with
                  | false =>
                    go_wp2_with fail
                    go_ret3
                    exact R5.out.bad hlt (by rw [SA.out, OB2.out, one_take HB1.out TK.out]) (by decide) R5.out.bel
                  | true =>
                    have hH := fun W => run_headS W B (d + tl) b0 d (by omega)
                    have RH := Fact.mk ((HR5.out.head d (by omega)).below (one_block W4 (.cells #[] 22)).1)
                    obtain ⟨ii, hi, hz0, hz1, hz2⟩ := typ_info
                    have hii := Fact.mk hi
                    have hzz := Fact.mk (And.intro hz0 (And.intro hz1 hz2))
                    have ltk : (st.take d).length = d := by rw [List.length_take, ST.out.2.2.2]; omega
                    have HNX : Fact (nextB (spotAt ss k).stack e = st.take d ++ e.2) := ⟨by rw [ST.out.1]; unfold nextB; rw [ST.out.2.2.2, TL.out, Nat.add_sub_cancel]⟩
                    obtain ⟨nl, hnl⟩ : ∃ nl, d + pl = nl := ⟨_, rfl⟩
                    have LEN : Fact ((st.take d ++ e.2).length = nl) := ⟨by rw [List.length_append, ltk, PL.out, hnl]⟩
                    have LTK := Fact.mk ltk
                    have O0 : Fact (Own 22 1 oneU8 (W4.alloc (.cells #[] 22)) W4.heap.size (.slice (some ⟨W4.heap.size, 0, none⟩) 0 0) ([] : List Int)) := ⟨row_new0 W4 W4.heap.size (Nat.le_refl _) 22 1⟩
                    have ARM1 : Fact (∀ v6 W6, Own 22 1 oneU8 W6 W4.heap.size v6 (st.take d) → Row (.slice (some ⟨W4.heap.size, 0, none⟩) 0 0) (W4.alloc (.cells #[] 22)) v6 W6 → Below W4.heap.size W4 W6 ∧ ∃ A6 a6, v6 = .slice A6 d a6) := ⟨fun v6 W6 ho hr => ⟨(one_block W4 _).1.grown hr.g (one_block W4 _).1.size (fun k hk => (World.ownsRow.lt O0.out k hk).1), by
                      obtain ⟨A6, a6, h6⟩ := ho.slice2
                      rw [LTK.out] at h6
                      exact ⟨A6, a6, h6⟩⟩⟩
                    have ARM2 : Fact (∀ A5 a5 W5 v6 W6, Below W4.heap.size W4 W5 → Own 22 1 oneU8 W5 W4.heap.size (.slice A5 d a5) (st.take d) → Own 22 1 oneU8 W6 W4.heap.size v6 (st.take d ++ e.2) → Row (.slice A5 d a5) W5 v6 W6 → Below W4.heap.size W4 W6 ∧ ∃ A6 a6, v6 = .slice A6 nl a6) := ⟨fun A5 a5 W5 v6 W6 B5 O5 ho hr => ⟨B5.grown hr.g B5.size (fun k hk => (World.ownsRow.lt O5 k hk).1), by
                      obtain ⟨A6, a6, h6⟩ := ho.slice2
                      rw [LEN.out] at h6
                      exact ⟨A6, a6, h6⟩⟩⟩
                    have v1 : W4.cell? ⟨g, 1, none⟩ = some (.slice B (d + tl) b0) := by rw [cell_of_row _ _ 1 _ _ _ S5.out]; rfl
                    have hg4 : g < W4.heap.size := by omega
                    have NUM : Fact (d + pl = nl ∧ d + tl ≤ b0 ∧ d + tl ≤ 64 ∧ tl ≤ 5 ∧ pl ≤ 2 ∧ 0 ≤ m ∧ m ≤ (k:Int) ∧ k < c.ins.length ∧ c.ins.length ≤ 2000 ∧ w.heap.size < g ∧ S < g ∧ g < g9 ∧ g9 < W4.heap.size) := ⟨⟨hnl, hbc, r64, htl5, hpl, m0, m1, hkl, hlen, hw0, hS, hg2, lt4⟩⟩
                    have HLT := Fact.mk hlt
                    clear hi hz0 hz1 hz2 ltk hnl hbc r64 htl5 hpl m0 m1 hkc hk hlt hlt2 hkl hw0 hS e1 hg2 lt4 hlen hlen1 hn
                    go_upto_region 23 with (first | (at_builtin; refine wpList_append_rd rfl _ _ 50 rfl W4.heap.size 22 ii (.int .u8 0) 1 1 Try.underlying50 hii.out hzz.out.1 hzz.out.2.1 hzz.out.2.2 rfl (by decide) (by decide) oneU8 oneU8_len oneU8_one _ ([] : List Int) rfl O0.out _ (st.take d) rfl RH.out (by rw [LTK.out]; have hN := NUM.out; simp; omega) (one_block W4 _).1.size ?_; intro v6 W6 ho6 hr6; obtain ⟨hb6, A6, a6, rfl⟩ := ARM1.out v6 W6 ho6 hr6; have B6 := Fact.mk hb6; have O6 : Fact (Own 22 1 oneU8 W6 W4.heap.size (.slice A6 d a6) (st.take d)) := ⟨ho6⟩; clear ho6 hr6 hb6) | (at_builtin; refine wpList_append_rd rfl _ _ 50 rfl W4.heap.size 22 ii (.int .u8 0) 1 1 Try.underlying50 hii.out hzz.out.1 hzz.out.2.1 hzz.out.2.2 rfl (by decide) (by decide) oneU8 oneU8_len oneU8_one _ (st.take d) rfl O6.out _ e.2 rfl (Q3.out.below B6.out) (by rw [LTK.out, PL.out]; have hN := NUM.out; omega) B6.out.size ?_; intro v7 W7 ho7 hr7; obtain ⟨hb7, A7, a7, rfl⟩ := ARM2.out _ _ _ v7 W7 B6.out O6.out ho7 hr7; have B7 := Fact.mk hb7; have O7 := Fact.mk ho7; clear ho7 hr7 hb7))
                    have R7 := Fact.mk (R5.out.below B7.out)
                    have S7 := Fact.mk ((B7.out.block g (by have hN := NUM.out; omega)).trans S5.out)
                    have I7 := Fact.mk ((B7.out.block g9 (by have hN := NUM.out; omega)).trans I6.out)
                    have RN : Fact (Rd oneU8 1 W7 (.slice A7 nl a7) (st.take d ++ e.2)) := ⟨O7.out.rd oneU8_len⟩
                    have N7 : Fact ((Value.slice A7 nl a7).ownBlock ≠ some S) := ⟨fun q => absurd (World.ownsRow.lt O7.out _ q).1 (by have hN := NUM.out; omega)⟩
                    obtain ⟨nx, hnx⟩ : ∃ nx, st.take d ++ e.2 = nx := ⟨_, rfl⟩
                    rw [hnx] at RN LEN HNX
                    clear v1 hg4 hH RH ARM1 ARM2 O0 O6 B6 Q3 O7 hnx
                    obtain ⟨j0, j1, j2, j3⟩ := sc_row4 I7.out
                    obtain ⟨rm, hrm⟩ : ∃ rm, (decide (64 < nl) || (decide (op = 22) && decide (0 < nl))) = rm := ⟨_, rfl⟩
                    have RM := Fact.mk hrm
                    clear hrm
                    go_cut [117] from 105 to 116 (fun s wx => s = .bool rm ∧ wx = W7)
                    case first =>
                      by_cases h64 : 64 < nl
                      · obtain rfl : rm = true := by rw [← RM.out, decide_eq_true h64]; rfl
                        go_wp2_with fail
                        go_meet
                        exact ⟨rfl, rfl⟩
                      · have h65 : decide ((64 : Int) < (nl : Int)) = false := decide_eq_false (by omega)
                        cases o22 : (op == 22) with
                        | true =>
                          by_cases hp0 : 0 < nl
                          · obtain rfl : rm = true := by rw [← RM.out, decide_eq_true (beq_iff_eq.1 o22 : op = 22), decide_eq_true hp0, decide_eq_false h64]; rfl
                            clear h64
                            go_wp2_with fail
                            go_meet
                            exact ⟨rfl, rfl⟩
                          · obtain rfl : rm = false := by rw [← RM.out, decide_eq_true (beq_iff_eq.1 o22 : op = 22), decide_eq_false hp0, decide_eq_false h64]; rfl
                            have hp1 : decide (0 < nl) = false := decide_eq_false hp0
                            clear h64 hp0
                            go_wp2_with fail
                            go_meet
                            exact ⟨rfl, rfl⟩
                        | false =>
                          obtain rfl : rm = false := by rw [← RM.out, decide_eq_false (beq_eq_false_iff_ne.1 o22 : ¬ op = 22), decide_eq_false h64]; rfl
                          clear h64
                          go_wp2_with fail
                          go_meet
                          exact ⟨rfl, rfl⟩
                    case rest =>
                      obtain ⟨rfl, hw⟩ := hcut
                      have hw2 := hw.symm
                      subst hw2
                      cases rm with
                      | true =>
                        go_wp2_with fail
                        go_ret3
                        exact R7.out.bad HLT.out (by rw [SA.out, OB2.out, one_room HB1.out TK.out (by rw [HNX.out, LEN.out]; exact RM.out)]) (by decide) R7.out.bel
                      | false =>
                        obtain ⟨i8, hi8, z80, z81, z82⟩ := int_info
                        have HI8 := Fact.mk (And.intro hi8 (And.intro z80 (And.intro z81 z82)))
                        clear hi8 z80 z81 z82
                        obtain ⟨L, hL⟩ : ∃ L, outsI ⟨op, t, a, nn⟩ k = L := ⟨_, rfl⟩
                        have GA := Fact.mk (one_goAll (ss := ss) HB1.out TK.out (by rw [HNX.out, LEN.out]; exact RM.out))
                        have LL : Fact ((∀ x ∈ L, x < c.ins.length + 1) ∧ L.length ≤ 2) := ⟨by rw [← hL]; exact ⟨outs_le HI2.out.2 (by have hN := NUM.out; omega), outs_len _ _⟩⟩
                        rw [HNX.out, ST.out.2.2.1, hL] at GA
                        have HLL := Fact.mk hL
                        clear hL
                        have OM := Fact.mk (outs_map (k := k) HI2.out.2)
                        rw [HLL.out, HJ.out] at OM
                        obtain ⟨sb, hsb⟩ : ∃ sb, staysB ⟨op, t, a, nn⟩ = sb := ⟨_, rfl⟩
                        rw [hsb] at OM
                        have HSB := Fact.mk hsb
                        clear hsb
                        go_upto_if 119 with (fail)
                        go_cut [15] from 120 to 124 (fun s wx => ∃ A8 c8, s = .slice A8 (outJ J a).length c8 ∧ Fact (Own 3 1 oneI64 wx W7.heap.size (.slice A8 (outJ J a).length c8) (outJ J a) ∧ Below W7.heap.size W7 wx))
                        case first =>
                          cases J with
                          | true =>
                            go_wp2_with (at_builtin; refine wpList_pushR rfl _ _ 94 rfl W7.heap.size 3 i8 (.int .i64 0) 1 8 Try.underlying94 HI8.out.1 HI8.out.2.1 HI8.out.2.2.1 HI8.out.2.2.2 rfl (by decide) (by decide) oneI64 _ ([] : List Int) rfl (Own.nil _ _ _ _ _) a rfl rfl (oneI64_one _) (by decide) (Nat.le_refl _) ?_)
                            intro v8 X8 ho hr
                            obtain ⟨B8, b8, rfl⟩ := ho.slice2
                            have hbx : Below W7.heap.size W7 X8 := (Below.refl _ _).grown hr.g (Nat.le_refl _) (fun k hk => by simp [Value.ownBlock] at hk)
                            go_wp2_with fail
                            go_meet
                            exact ⟨B8, b8, rfl, ⟨ho, hbx⟩⟩
                          | false =>
                            go_wp2_with fail
                            go_meet
                            exact ⟨none, 0, rfl, ⟨Own.nil _ _ _ _ _, Below.refl _ _⟩⟩
                        case rest =>
                          obtain ⟨A8, c8, rfl, HC8⟩ := hcut
                          obtain ⟨j0, j1, j2, j3⟩ := sc_row4 ((HC8.out.2.block g9 (by have hN := NUM.out; have := B7.out.size; omega)).trans I7.out)
                          go_upto_region 28 with (fail)
                          go_cut [132] from 125 to 131 (fun s wx => s = .bool sb ∧ Fact (Own 3 1 oneI64 wx W7.heap.size (.slice A8 (outJ J a).length c8) (outJ J a) ∧ Below W7.heap.size W7 wx))
                          case first =>
                            cases o18 : (op == 18) with
                            | true =>
                              obtain rfl : sb = false := by rw [← HSB.out]; unfold staysB; have h : op = 18 := beq_iff_eq.1 o18; simp [h]
                              have q18 : (op != 18) = false := by rw [bne, o18]; rfl
                              go_wp2_with fail
                              go_meet
                              exact ⟨rfl, HC8⟩
                            | false =>
                              have q18 : (op != 18) = true := by rw [bne, o18]; rfl
                              cases o22 : (op == 22) with
                              | true =>
                                obtain rfl : sb = false := by rw [← HSB.out]; unfold staysB; have h : op = 22 := beq_iff_eq.1 o22; simp [h]
                                have q22 : (op != 22) = false := by rw [bne, o22]; rfl
                                go_wp2_with fail
                                go_meet
                                exact ⟨rfl, HC8⟩
                              | false =>
                                obtain rfl : sb = true := by rw [← HSB.out]; unfold staysB; rw [decide_eq_true (beq_eq_false_iff_ne.1 o18 : op ≠ 18), decide_eq_true (beq_eq_false_iff_ne.1 o22 : op ≠ 22)]; rfl
                                have q22 : (op != 22) = true := by rw [bne, o22]; rfl
                                go_wp2_with fail
                                go_meet
                                exact ⟨rfl, HC8⟩
                          case rest =>
                            clear HC8 j0 j1 j2 j3
                            obtain ⟨rfl, HC8⟩ := hcut
                            have hLe : L.length = (outJ J a ++ outJ sb ((k : Int) + 1)).length := by rw [← OM.out, List.length_map]
                            have HLE := Fact.mk hLe
                            clear hLe
                            have hk9 : k ≤ 2000 := by have hN := NUM.out; omega
                            go_upto_if 132 with (fail)
                            go_cut [15] from 133 to 137 (fun s wx => ∃ A8 c8, s = .slice A8 L.length c8 ∧ Fact (Rd oneI64 1 wx (.slice A8 L.length c8) (L.map natI) ∧ (Value.slice A8 L.length c8).ownBlock ≠ some S ∧ Below W7.heap.size W7 wx))
                            case first =>
                                                      cases sb with
                              | true =>
                                go_wp2_with (at_builtin; refine wpList_pushR rfl _ _ 94 rfl W7.heap.size 3 i8 (.int .i64 0) 1 8 Try.underlying94 HI8.out.1 HI8.out.2.1 HI8.out.2.2.1 HI8.out.2.2.2 rfl (by decide) (by decide) oneI64 _ (outJ J a) rfl HC8.out.1 ((k : Int) + 1) rfl rfl (oneI64_one _) (by have := outJ_len J a; omega) HC8.out.2.size ?_)
                                intro v9 X9 ho hr
                                obtain ⟨B9, b9, rfl⟩ := ho.slice2
                                have hbx : Below W7.heap.size W7 X9 := HC8.out.2.grown hr.g HC8.out.2.size (fun k hk => (World.ownsRow.lt HC8.out.1 k hk).1)
                                go_wp2_with fail
                                go_meet
                                rw [HLE.out, OM.out]
                                exact ⟨B9, b9, rfl, ⟨ho.rd oneI64_len, fun q => absurd (World.ownsRow.lt ho _ q).1 (by have hN := NUM.out; have := B7.out.size; omega), hbx⟩⟩
                              | false =>
                                go_wp2_with fail
                                go_meet
                                rw [HLE.out, OM.out]
                                rw [show outJ J a ++ outJ false ((k : Int) + 1) = outJ J a from List.append_nil _]
                                exact ⟨A8, c8, rfl, ⟨HC8.out.1.rd oneI64_len, fun q => absurd (World.ownsRow.lt HC8.out.1 _ q).1 (by have hN := NUM.out; have := B7.out.size; omega), HC8.out.2⟩⟩
                            case rest =>
                              obtain ⟨A8, c8, rfl, HC⟩ := hcut
                              clear HI8 HC8 HLE OM HSB
                              have hLb : L.length ≤ 2 := LL.out.2
                              have hm0 : 0 ≤ m := by have hN := NUM.out; omega
                              have hm1 : m ≤ 2000 := by have hN := NUM.out; omega
                              have hSg : S < g := by have hN := NUM.out; omega
                              go_wp2_with fail
                              go_loopw [16] (fun i wx => ∃ (j : Nat) (sj : List GSpot), j ≤ L.length ∧ i = .int .i64 j ∧ Fact (Inr W7 wx S nx (m + 1) L ss (.slice A7 nl a7) (.slice A8 L.length c8) j sj)) (fun i _ => L.length - (intOf i).toNat)
                              case atStart => exact ⟨0, ss, Nat.zero_le _, rfl, ⟨⟨grown_below HC.out.2.2 _, R7.out.pl.below HC.out.2.2, rfl, rfl, RN.out.below HC.out.2.2, HC.out.1, N7.out, HC.out.2.1⟩⟩⟩
                              case round =>
                                clear HC
                                obtain ⟨j, sj, hj, rfl, IN⟩ := hrel
                                by_cases hjl : j < L.length
                                · obtain ⟨tt, htt⟩ : ∃ tt, L[j] = tt := ⟨_, rfl⟩
                                  have htl : tt < c.ins.length + 1 := htt ▸ LL.out.1 _ (List.getElem_mem hjl)
                                  obtain ⟨b8, o8, hb8, ca⟩ : ∃ b o, A8 = some ⟨b, o, none⟩ ∧ wr.cell? ⟨b, o + j, none⟩ = some (.int .i64 (tt : Int)) := by
                                    obtain ⟨_, A, c9, e, _, _, hc⟩ := IN.out.ro
                                    injection e with e1 _ _
                                    subst e1
                                    obtain ⟨b, o, e2, hc2⟩ := hc (by simp; omega)
                                    refine ⟨b, o, e2, ?_⟩
                                    have := hc2 j (by simp; omega) 0 (.int .i64 (tt : Int)) (by rw [List.getElem_map, htt]; rfl)
                                    simpa using this
                                  subst hb8
                                  have hlj : sj.length = c.ins.length + 1 := by rw [IN.out.len, R7.out.ok.len]
                                  obtain ⟨q, hq⟩ : ∃ q, goesOk sj tt nx = q := ⟨_, rfl⟩
                                  have HTT := Fact.mk htt
                                  have HQJ := Fact.mk hq
                                  have HLJ := Fact.mk hlj
                                  have ht1 : (tt : Int) < (c.ins.length : Int) + 1 := by omega
                                  have hj1 : (j : Int) < (L.length : Int) := by omega
                                  clear htt hq hlj
                                  go_upto_region 34 with (fail)
                                  go_cut [162] from 154 to 161 (fun s wx => s = .bool (!q) ∧ Fact (Inr W7 wx S nx (m + 1) L ss (.slice A7 nl a7) (.slice (some ⟨b8, o8, none⟩) L.length c8) j sj))
                                  case first =>
                                    obtain ⟨v, x0, x1, x2, hr, hne, -, -, -⟩ := IN.out.pl.at tt (by rw [HLJ.out]; exact htl)
                                    obtain ⟨r2, hr2⟩ : ∃ r, (spotAt sj tt).reached = r := ⟨_, rfl⟩
                                    rw [hr2] at x0
                                    obtain ⟨B2, sl2, b2, rfl⟩ : ∃ B sl b0, v = .slice B sl b0 := by
                                      obtain ⟨_, A, a0, e, _⟩ := hr
                                      exact ⟨A, _, a0, e⟩
                                    have HR2 := Fact.mk hr
                                    have RE2 := Fact.mk hr2
                                    clear hr hr2 hne x2
                                    cases r2 with
                                    | false =>
                                      obtain rfl : q = true := by rw [← HQJ.out]; unfold goesOk; rw [RE2.out]; rfl
                                      go_wp2_with fail
                                      go_meet
                                      exact ⟨rfl, IN⟩
                                    | true =>
                                      have EQ2 := Fact.mk (rsame_any wr _ _ _ _ HR2.out IN.out.rn)
                                      have hdq : decide ((spotAt sj tt).stack = nx) = q := by rw [← HQJ.out]; unfold goesOk; rw [RE2.out]; rfl
                                      rw [hdq] at EQ2
                                      clear hdq
                                      go_wp2_with fail
                                      refine EQ2.out.mono ?_
                                      rintro e9 W9 ⟨rfl, hb9⟩
                                      have IN9 := Fact.mk (IN.out.below hb9)
                                      clear hb9 EQ2
                                      go_wp2_with fail
                                      go_meet
                                      exact ⟨rfl, IN9⟩
                                  case rest =>
                                    clear IN ca
                                    obtain ⟨rfl, IN⟩ := hcut
                                    cases q with
                                    | false =>
                                      go_wp2_with fail
                                      go_ret3
                                      exact R7.out.bad HLT.out (by rw [SA.out, OB2.out, GA.out.1]; exact IN.out.err hjl HTT.out HQJ.out) (by decide) (R7.out.bel.grown IN.out.grown R7.out.bel.size (fun k hk => by cases hk; exact Nat.le_of_lt R7.out.lo))
                                    | true =>
                                      obtain ⟨v, x0, x1, x2, -, -, f0, f1, f2⟩ := IN.out.pl.at tt (by rw [HLJ.out]; exact htl)
                                      obtain ⟨m2, hm2⟩ : ∃ m2, (spotAt sj tt).steps = m2 := ⟨_, rfl⟩
                                      rw [hm2] at x2
                                      have HM2 := Fact.mk hm2
                                      have v2 := IN.out.grown.cell (show W7.cell? ⟨g, 2, none⟩ = some (.int .i64 m) by rw [cell_of_row _ _ 2 _ _ _ S7.out]; rfl) (fun e => by injection e with e; first | exact absurd e (Nat.ne_of_gt hSg) | exact absurd e.symm (Nat.ne_of_gt hSg))
                                      clear hm2
                                      go_upto_region 38 with (fail)
                                      have PP := IN.out.pl.put2 tt (by rw [HLJ.out]; exact htl) nx _ IN.out.rn IN.out.n7
                                      rw [HM2.out] at PP
                                      have y2 := PP.2.cell v2 (fun e => by injection e with e; first | exact absurd e (Nat.ne_of_gt hSg) | exact absurd e.symm (Nat.ne_of_gt hSg))
                                      obtain ⟨-, -, -, y3, -, -, -, -, g2⟩ := PP.1.at tt (by rw [List.length_set, HLJ.out]; exact htl)
                                      rw [spot_set (by rw [HLJ.out]; exact htl)] at y3
                                      have PP2 := Fact.mk PP
                                      clear x0 x1 x2 f0 f1 f2 v2 PP
                                      generalize (wr.setCell ⟨S, tt * 3, none⟩ (.bool true)).setCell ⟨S, tt * 3 + 1, none⟩ (.slice A7 nl a7) = V at *
                                      go_quiet (fail)
                                      by_cases hmm : m2 < m + 1
                                      · go_wp2_with fail
                                        go_roundw
                                        case rel => exact ⟨j + 1, _, by omega, by go_num, ⟨IN.out.step hjl HTT.out HQJ.out (spot_set_more nx (by rw [HM2.out]; exact hmm)) ⟨(Places.more ⟨rfl, rfl⟩ PP2.out.1 (by rw [HLJ.out]; exact htl) (m + 1) _).1, grown_trans PP2.out.2 (Places.more ⟨rfl, rfl⟩ PP2.out.1 (by rw [HLJ.out]; exact htl) (m + 1) _).2⟩⟩⟩
                                        case measure => simp [intOf]; omega
                                      · have hmm2 : m + 1 ≤ m2 := by omega
                                        clear hmm
                                        go_wp2_with fail
                                        go_roundw
                                        case rel => exact ⟨j + 1, _, by omega, by go_num, ⟨IN.out.step hjl HTT.out HQJ.out (spot_set_steps nx (by rw [HM2.out]; exact hmm2)) ⟨by rw [HM2.out]; exact PP2.out.1.below (drewN_bel (Below.refl _ _) _), grown_trans PP2.out.2 (grown_below (drewN_bel (Below.refl _ _) _) _)⟩⟩⟩
                                        case measure => simp [intOf]; omega
                                · have hje : j = L.length := by omega
                                  have HJE := Fact.mk hje
                                  have hj2 : decide ((j : Int) < (L.length : Int)) = false := decide_eq_false (by omega)
                                  have hj3 : decide (j < L.length) = false := decide_eq_false (by omega)
                                  clear hje hjl hj
                                  go_wp2_with fail
                                  go_roundw
                                  case rel => exact ⟨k + 1, sj, by have hN := NUM.out; omega, by go_num, ⟨R7.out.next (by
                                        have h2 := IN.out.fin HJE.out
                                        have h0 : (oneIns ⟨op, t, a, nn⟩ (spotAt ss k) k e ss).2 = 0 := by rw [GA.out.1, h2]
                                        rw [SA.out, OB2.out, Prod.ext_iff]
                                        exact ⟨(GA.out.2 h0).trans (by rw [h2]), h0⟩) HLT.out IN.out.grown IN.out.pl⟩⟩
                                  case measure => have hN := NUM.out; simp [intOf]; omega
      · have hke : k = c.ins.length + 1 := by omega
        have HK := Fact.mk hke
        have hk2 : decide ((k : Int) ≤ (c.ins.length : Int)) = false := decide_eq_false (by omega)
        have hk1 : decide (k ≤ c.ins.length) = false := decide_eq_false (by omega)
        clear hke hlt hk
        go_wp2_with fail
        go_ret3
        have HL := R.out.ok.len
        have hke := HK.out
        subst hke
        have := R.out.fin
        rw [HL] at this
        exact this
end Go.Proofs.Ythiapebodpkamaa

