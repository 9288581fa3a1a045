/- One place gone over: an end. -/
import Derived.Test.YthiapebodpkamaaOneA
import Derived.Test.YthiapebodpkamaaGoes
import Derived.Test.YthiapebodpkamaaEff
namespace Go.Proofs.Ythiapebodpkamaa
open Go.RowKit
set_option maxRecDepth 100000 in
set_option maxHeartbeats 8000000 in
theorem one_N (w0 w : World) (X S : Nat) (c : GCode) (vs bs is : Value) (ss : List GSpot) (hC : ChkSt w0 w X S c vs bs is ss) (k : Nat) (hkn : k < c.ins.length) (hn : ss.length = c.ins.length + 1) (hm : ss.length ≤ 100000) (i : GIns) (hi : c.ins[k] = i) (hg : 1 ≤ i.op ∧ i.op ≤ 22) (hf : fitsB c i = true) (ho : i.op = 22) (hl64 : (spotAt ss k).stack.length ≤ 64) (_m0 : 0 ≤ (spotAt ss k).steps) (_m1 : (spotAt ss k).steps ≤ 100000) :
    Calls Try.prog 49 #[.pointer (some ⟨X, 0, none⟩), .int .i64 (k : Int)] w (OnePost w0 X S c vs bs is (oneB c ss k)) := by
  have hk : k < ss.length := by omega
  rw [oneB_ins (by rw [List.getElem?_eq_getElem hkn, hi] : c.ins[k]? = some i)]
  obtain ⟨-, -, -, k3, k4⟩ := hC.chk.cells
  obtain ⟨v, c0, c1, c2, hr, hne, -, -, -⟩ := hC.pl.at k hk
  have hS := hC.pl.lt
  have HC := Fact.mk hC
  have hX : X < w.heap.size := (Array.getElem?_eq_some_iff.1 hC.row).1
  obtain ⟨B, b0, rfl⟩ : ∃ B b0, v = .slice B (spotAt ss k).stack.length b0 := by
    obtain ⟨_, A, a0, e, _⟩ := hr
    exact ⟨A, a0, e⟩
  have hk' : (k : Int) < (ss.length : Int) := by omega
  obtain ⟨rc, hrc⟩ : ∃ rc, (spotAt ss k).reached = rc := ⟨_, rfl⟩
  obtain ⟨m, hmx⟩ : ∃ m, (spotAt ss k).steps = m := ⟨_, rfl⟩
  obtain ⟨op, t, a, nn⟩ := i
  obtain rfl : op = 22 := ho
  obtain ⟨l3, A3, c3, e3, -, -, hci⟩ := hC.chk.rd.ins
  subst e3
  obtain ⟨bi, oi, rfl, hci2⟩ := hci (by omega)
  have i0 := hci2 k hkn 0 (.int .u8 c.ins[k].op) rfl
  have i1 := hci2 k hkn 1 (.int .u8 c.ins[k].t) rfl
  have i2 := hci2 k hkn 2 (.int .i64 c.ins[k].a) rfl
  have i3 := hci2 k hkn 3 (.int .i64 c.ins[k].n) rfl
  rw [hi] at i0 i1 i2 i3
  replace i0 : w.cell? ⟨bi, oi + k * 4, none⟩ = some (.int .u8 22) := i0
  replace i1 : w.cell? ⟨bi, oi + k * 4 + 1, none⟩ = some (.int .u8 t) := i1
  replace i2 : w.cell? ⟨bi, oi + k * 4 + 2, none⟩ = some (.int .i64 a) := i2
  replace i3 : w.cell? ⟨bi, oi + k * 4 + 3, none⟩ = some (.int .i64 nn) := i3
  have lbi := World.block_lt_of_cell? w _ i0
  have hkc : (k : Int) < (c.ins.length : Int) := by omega
  have hne2 : ((k : Int) == (c.ins.length : Int)) = false := beq_eq_false_iff_ne.2 (by omega)
  obtain ⟨st, hst⟩ : ∃ st, (spotAt ss k).stack = st := ⟨_, rfl⟩
  obtain ⟨e, he⟩ : ∃ e, effB c ⟨22, t, a, nn⟩ st = e := ⟨_, rfl⟩
  have hpl : e.2.length ≤ 2 := by rw [← he]; exact eff_len _ _ _
  have htl5 : e.1.length ≤ 5 := by rw [← he]; exact eff_len1 _ _ _
  obtain ⟨hb2, s1, s2, sz2⟩ := two_blocks w (Obj.cells #[.bool rc, .slice B st.length b0, .int .i64 m] 52) (Obj.cells #[.int .u8 22, .int .u8 t, .int .i64 a, .int .i64 nn] 38)
  rw [hst] at hr hl64 c1 ⊢
  rw [he]
  have HE := Fact.mk (eff_any _ X c vs bs _ _ _ ⟨22, t, a, nn⟩ st (hC.chk.below hb2) (hr.below hb2) hg hf)
  rw [he] at HE
  have HB2 := Fact.mk hb2
  have S1 := Fact.mk s1
  have I1 := Fact.mk s2
  have HR := Fact.mk hr
  have HST := Fact.mk hst
  have HM := Fact.mk hmx
  have SZ2 := Fact.mk sz2
  rw [hrc] at c0
  rw [hmx] at c2
  obtain ⟨sl, hsl⟩ : ∃ sl, st.length = sl := ⟨_, rfl⟩
  rw [hsl] at c1 hl64
  have SL := Fact.mk hsl
  have HN := Fact.mk hn
  rw [hsl] at HE HB2 S1 I1 HR SZ2
  have hk1 : k + 1 < ss.length := by omega
  have HK1 := Fact.mk hk1
  clear hr hne hrc hmx hst he hb2 s1 s2 hC hci hci2 hf hg hi hn sz2 hsl hk1
  unfold vIns at HE
  have HB1 : Fact ((jumpsB ⟨22, t, a, nn⟩ && decide (a ≤ (k : Int))) = false) := ⟨by simp [jumpsB]⟩
  obtain ⟨r, hres⟩ : ∃ r, oneIns ⟨22, t, a, nn⟩ (spotAt ss k) k e ss = r := ⟨_, rfl⟩
  rw [hres]
  have HRES := Fact.mk hres
  clear hres
  go_enter Try.func49, Try.ntmps49
  go_wp2_with fail
  refine HE.out.mono ?_
  rintro e3 W3 ⟨v1, v2, rfl, r1, r2, hb3⟩
  clear HE c0 c1 c2 i0 i1 i2 i3 k3 k4
  obtain ⟨A1, a1', rfl⟩ : ∃ A a', v1 = .slice A e.1.length a' := by
    obtain ⟨_, A, a', e, _⟩ := r1
    exact ⟨A, a', e⟩
  obtain ⟨A2, a2', rfl⟩ : ∃ A a', v2 = .slice A e.2.length a' := by
    obtain ⟨_, A, a', e, _⟩ := r2
    exact ⟨A, a', e⟩
  have B3 := Fact.mk (HB2.out.trans (hb3.mono (by rw [SZ2.out]; omega)))
  have S3 := Fact.mk ((hb3.block w.heap.size (by rw [SZ2.out]; omega)).trans S1.out)
  have I3 := Fact.mk ((hb3.block (w.heap.size + 1) (by rw [SZ2.out]; omega)).trans I1.out)
  have sz3 : w.heap.size + 1 + 1 ≤ W3.heap.size := by have := hb3.size; rwa [SZ2.out] at this
  have R1 := Fact.mk r1
  have R2 := Fact.mk r2
  clear r1 r2 hb3 S1 I1 HB2
  have d1 : W3.cell? ⟨w.heap.size, 1, none⟩ = some (.slice B sl b0) := by rw [cell_of_row _ _ 1 _ _ _ S3.out]; rfl
  have d2 : W3.cell? ⟨w.heap.size, 2, none⟩ = some (.int .i64 m) := by rw [cell_of_row _ _ 2 _ _ _ S3.out]; rfl
  have j0 : W3.cell? ⟨w.heap.size + 1, 0, none⟩ = some (.int .u8 22) := by rw [cell_of_row _ _ 0 _ _ _ I3.out]; rfl
  have j2 : W3.cell? ⟨w.heap.size + 1, 2, none⟩ = some (.int .i64 a) := by rw [cell_of_row _ _ 2 _ _ _ I3.out]; rfl
  obtain ⟨tl, htl⟩ : ∃ tl, e.1.length = tl := ⟨_, rfl⟩
  rw [htl] at R1 htl5 ⊢
  have TL := Fact.mk htl
  clear htl
  by_cases hts : tl ≤ sl
  case neg =>
    have x1 : (sl : Int) - (tl : Int) < 0 := by omega
    have hres : r = (ss, 140) := by rw [← HRES.out]; exact one_take HB1.out (by rw [HST.out]; unfold takesOk; rw [SL.out, TL.out, decide_eq_false hts]; rfl)
    subst hres
    go_wp2
    go_ret
    exact ⟨rfl, HC.out.below B3.out⟩
  obtain ⟨d, rfl⟩ : ∃ d, sl = d + tl := ⟨sl - tl, by omega⟩
  clear hts
  have R3 := Fact.mk (HR.out.below B3.out)
  obtain ⟨q, hq⟩ : ∃ q, decide (st.drop d = e.1) = q := ⟨_, rfl⟩
  have HQ := Fact.mk hq
  have TK : Fact (takesOk (spotAt ss k).stack e.1 = q) := ⟨by
    rw [HST.out]; unfold takesOk
    rw [SL.out, TL.out, decide_eq_true (by omega : tl ≤ d + tl), Nat.add_sub_cancel, hq]; rfl⟩
  clear hq
  have hbc : d + tl ≤ b0 := by
    obtain ⟨_, _, _, e, h, _⟩ := R3.out
    injection e with _ e2 e3
    omega
  have hT := run_tailS W3 B (d + tl) b0 d (by omega)
  have EQ := Fact.mk (eq8_any W3 _ _ _ _ (R3.out.tail d (by omega)) R1.out)
  rw [HQ.out] at EQ
  go_wp2_with fail
  refine EQ.out.mono ?_
  rintro e4 W4 ⟨rfl, q4, rfl⟩
  clear EQ hT
  cases q with
  | false =>
    have hres : r = (ss, 140) := by rw [← HRES.out]; exact one_take HB1.out TK.out
    subst hres
    go_wp2
    go_ret
    exact ⟨rfl, HC.out.below (B3.out.trans ((below_dn9 W3 q4).mono B3.out.size))⟩
  | true =>
    have hH := run_headS (W3.drewN q4) B (d + tl) b0 d (by omega)
    have RH := Fact.mk ((R3.out.head d (by omega)).below (below_dn9 W3 q4))
    obtain ⟨ii, hi, hz0, hz1, hz2⟩ := typ_info
    have hii := Fact.mk hi
    have hzz := Fact.mk (And.intro hz0 (And.intro hz1 hz2))
    have ltk : (st.take d).length = d := by rw [List.length_take, SL.out]; omega
    have HNX : Fact (nextB (spotAt ss k).stack e = st.take d ++ e.2) := ⟨by rw [HST.out]; unfold nextB; rw [SL.out, TL.out, Nat.add_sub_cancel]⟩
    obtain ⟨pl, hpl2⟩ : ∃ pl, e.2.length = pl := ⟨_, rfl⟩
    rw [hpl2] at hpl
    have LEN : Fact ((st.take d ++ e.2).length = d + pl) := ⟨by rw [List.length_append, ltk, hpl2]⟩
    have LTK := Fact.mk ltk
    have PL := Fact.mk hpl2
    rw [hpl2] at R2
    rw [PL.out]
    clear hi hz0 hz1 hz2 ltk hpl2 d1 d2 j0 j2
    obtain ⟨d1, d2, j0, j2⟩ : W3.cell? ⟨w.heap.size, 1, none⟩ = some (.slice B (d + tl) b0) ∧ W3.cell? ⟨w.heap.size, 2, none⟩ = some (.int .i64 m) ∧ W3.cell? ⟨w.heap.size + 1, 0, none⟩ = some (.int .u8 22) ∧ W3.cell? ⟨w.heap.size + 1, 2, none⟩ = some (.int .i64 a) :=
      ⟨by rw [cell_of_row _ _ 1 _ _ _ S3.out]; rfl, by rw [cell_of_row _ _ 2 _ _ _ S3.out]; rfl, by rw [cell_of_row _ _ 0 _ _ _ I3.out]; rfl, by rw [cell_of_row _ _ 2 _ _ _ I3.out]; rfl⟩
    go_wp2_with fail
    refine (clone_any _ _ (st.take d) (by rw [LTK.out]; omega) RH.out).mono ?_
    rintro e5 W5 ⟨v5, rfl, ho5, hb5⟩
    obtain ⟨A5, a5, rfl⟩ : ∃ A a, v5 = .slice A d a := by
      obtain ⟨A, a, e⟩ := ho5.slice2
      rw [LTK.out] at e
      exact ⟨A, a, e⟩
    have B5 : Fact (Below W3.heap.size W3 W5) := ⟨(below_dn9 W3 q4).trans (hb5.mono (Nat.le_refl _))⟩
    have R25 := Fact.mk (R2.out.below B5.out)
    have O5 : Fact (Own 22 1 oneU8 W5 W3.heap.size (.slice A5 d a5) (st.take d)) := ⟨ho5⟩
    clear ho5 hb5 hH RH d1 d2 j0 j2
    have ARM : Fact (∀ v6 W6, Own 22 1 oneU8 W6 W3.heap.size v6 (st.take d ++ e.2) → Row (.slice A5 d a5) W5 v6 W6 → Below W3.heap.size W3 W6 ∧ ∃ A6 a6, v6 = .slice A6 (d + pl) a6) := ⟨fun v6 W6 ho hr => ⟨B5.out.grown hr.g B5.out.size (fun k hk => (World.ownsRow.lt O5.out k hk).1), by
      obtain ⟨A6, a6, h6⟩ := ho.slice2
      rw [LEN.out] at h6
      exact ⟨A6, a6, h6⟩⟩⟩
    by_cases h64 : 64 < d + pl
    · have hres : r = (ss, 140) := by rw [← HRES.out]; exact one_room HB1.out TK.out (by rw [HNX.out, LEN.out]; rw [decide_eq_true (by omega : 64 < d + pl)]; rfl)
      subst hres
      go_wp2_with (at_builtin; refine wpList_append_rd rfl _ _ 50 rfl W3.heap.size 22 ii (.int .u8 0) 1 1 Try.underlying50 hii.out hzz.out.1 hzz.out.2.1 hzz.out.2.2 rfl (by decide) (by decide) oneU8 oneU8_len oneU8_one _ (st.take d) rfl O5.out _ e.2 rfl R25.out (by rw [LTK.out, PL.out]; omega) B5.out.size ?_; intro v6 W6 ho6 hr6; obtain ⟨hb6, A6, a6, rfl⟩ := ARM.out v6 W6 ho6 hr6; have B6 := Fact.mk hb6; have O6 := Fact.mk ho6; have S6 := Fact.mk ((hb6.block w.heap.size (by omega)).trans S3.out); have I6 := Fact.mk ((hb6.block (w.heap.size + 1) (by omega)).trans I3.out); have d2 : W6.cell? ⟨w.heap.size, 2, none⟩ = some (.int .i64 m) := (by rw [cell_of_row _ _ 2 _ _ _ S6.out]; rfl); have j0 : W6.cell? ⟨w.heap.size + 1, 0, none⟩ = some (.int .u8 22) := (by rw [cell_of_row _ _ 0 _ _ _ I6.out]; rfl); have j2 : W6.cell? ⟨w.heap.size + 1, 2, none⟩ = some (.int .i64 a) := (by rw [cell_of_row _ _ 2 _ _ _ I6.out]; rfl); clear ho6 hr6 hb6)
      go_wp2
      go_ret
      exact ⟨rfl, (HC.out.below (B3.out.trans (B6.out.mono B3.out.size)))⟩
    · by_cases h0 : 0 < d + pl
      · have hres : r = (ss, 140) := by rw [← HRES.out]; exact one_room HB1.out TK.out (by rw [HNX.out, LEN.out]; rw [decide_eq_true (by omega : 0 < d + pl)]; simp)
        subst hres
        go_wp2_with (at_builtin; refine wpList_append_rd rfl _ _ 50 rfl W3.heap.size 22 ii (.int .u8 0) 1 1 Try.underlying50 hii.out hzz.out.1 hzz.out.2.1 hzz.out.2.2 rfl (by decide) (by decide) oneU8 oneU8_len oneU8_one _ (st.take d) rfl O5.out _ e.2 rfl R25.out (by rw [LTK.out, PL.out]; omega) B5.out.size ?_; intro v6 W6 ho6 hr6; obtain ⟨hb6, A6, a6, rfl⟩ := ARM.out v6 W6 ho6 hr6; have B6 := Fact.mk hb6; have O6 := Fact.mk ho6; have S6 := Fact.mk ((hb6.block w.heap.size (by omega)).trans S3.out); have I6 := Fact.mk ((hb6.block (w.heap.size + 1) (by omega)).trans I3.out); have d2 : W6.cell? ⟨w.heap.size, 2, none⟩ = some (.int .i64 m) := (by rw [cell_of_row _ _ 2 _ _ _ S6.out]; rfl); have j0 : W6.cell? ⟨w.heap.size + 1, 0, none⟩ = some (.int .u8 22) := (by rw [cell_of_row _ _ 0 _ _ _ I6.out]; rfl); have j2 : W6.cell? ⟨w.heap.size + 1, 2, none⟩ = some (.int .i64 a) := (by rw [cell_of_row _ _ 2 _ _ _ I6.out]; rfl); clear ho6 hr6 hb6)
        go_wp2
        go_ret
        exact ⟨rfl, (HC.out.below (B3.out.trans (B6.out.mono B3.out.size)))⟩
      · have h00 : d + pl = 0 := by omega
        have hres : r = (ss, 0) := by rw [← HRES.out, one_rest HB1.out TK.out (by rw [HNX.out, LEN.out, decide_eq_false (by omega : ¬ 64 < d + pl)]; rw [decide_eq_false (by omega : ¬ 0 < d + pl)]; rfl) rfl]; rfl
        subst hres
        go_wp2_with (at_builtin; refine wpList_append_rd rfl _ _ 50 rfl W3.heap.size 22 ii (.int .u8 0) 1 1 Try.underlying50 hii.out hzz.out.1 hzz.out.2.1 hzz.out.2.2 rfl (by decide) (by decide) oneU8 oneU8_len oneU8_one _ (st.take d) rfl O5.out _ e.2 rfl R25.out (by rw [LTK.out, PL.out]; omega) B5.out.size ?_; intro v6 W6 ho6 hr6; obtain ⟨hb6, A6, a6, rfl⟩ := ARM.out v6 W6 ho6 hr6; have B6 := Fact.mk hb6; have O6 := Fact.mk ho6; have S6 := Fact.mk ((hb6.block w.heap.size (by omega)).trans S3.out); have I6 := Fact.mk ((hb6.block (w.heap.size + 1) (by omega)).trans I3.out); have d2 : W6.cell? ⟨w.heap.size, 2, none⟩ = some (.int .i64 m) := (by rw [cell_of_row _ _ 2 _ _ _ S6.out]; rfl); have j0 : W6.cell? ⟨w.heap.size + 1, 0, none⟩ = some (.int .u8 22) := (by rw [cell_of_row _ _ 0 _ _ _ I6.out]; rfl); have j2 : W6.cell? ⟨w.heap.size + 1, 2, none⟩ = some (.int .i64 a) := (by rw [cell_of_row _ _ 2 _ _ _ I6.out]; rfl); clear ho6 hr6 hb6)
        go_wp2
        go_ret
        exact ⟨rfl, (HC.out.below (B3.out.trans (B6.out.mono B3.out.size)))⟩
end Go.Proofs.Ythiapebodpkamaa

