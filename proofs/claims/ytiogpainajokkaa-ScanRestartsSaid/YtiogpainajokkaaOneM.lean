/- One place gone over: the place behind the last instruction. -/
import Derived.Test.YtiogpainajokkaaChkM
import Derived.Test.YtiogpainajokkaaGoes
import Derived.Test.YtiogpainajokkaaEff
namespace Go.Proofs.Ytiogpainajokkaa
open Go.RowKit
set_option maxRecDepth 100000 in
set_option maxHeartbeats 2000000 in
theorem one_end (w0 w : World) (X S : Nat) (c : GCode) (vs bs is : Value) (ss : List GSpot) (hC : ChkSt w0 w X S c vs bs is ss) (k : Nat) (hk : k < ss.length) (hn : k = c.ins.length) (_hm : ss.length ≤ 100000) :
    Calls Try.prog 70 #[.pointer (some ⟨X, 0, none⟩), .int .i64 (k : Int)] w (OnePost w0 X S c vs bs is (oneB c ss k)) := by
  have he : oneB c ss k = (ss, if 0 < (spotAt ss k).stack.length then 140 else 0) := by
    unfold oneB
    rw [List.getElem?_eq_none (by omega)]
  rw [he]
  clear he
  obtain ⟨-, -, -, k3, k4⟩ := hC.chk.cells
  obtain ⟨v, c0, c1, c2, hr, hne, -, -, -⟩ := hC.pl.at k hk
  have hS := hC.pl.lt
  have HC := Fact.mk hC
  have hX : X < w.heap.size := (Array.getElem?_eq_some_iff.1 hC.row).1
  obtain ⟨B, b0, rfl⟩ : ∃ B b0, v = .slice B (spotAt ss k).stack.length b0 := by
    obtain ⟨_, A, a0, e, _⟩ := hr
    exact ⟨A, a0, e⟩
  have hk' : (k : Int) < (ss.length : Int) := by omega
  obtain ⟨rc, hrc⟩ : ∃ rc, (spotAt ss k).reached = rc := ⟨_, rfl⟩
  obtain ⟨m, hmx⟩ : ∃ m, (spotAt ss k).steps = m := ⟨_, rfl⟩
  have hi : ∃ A3 c3, is = .slice A3 c.ins.length c3 := by
    obtain ⟨_, A3, c3, e, _⟩ := hC.old.ins
    exact ⟨A3, c3, e⟩
  obtain ⟨A3, c3, rfl⟩ := hi
  rw [← hn] at k3
  obtain ⟨sl, hsl⟩ : ∃ sl, (spotAt ss k).stack.length = sl := ⟨_, rfl⟩
  rw [hsl] at c1 ⊢
  rw [hrc] at c0
  rw [hmx] at c2
  have HB := Fact.mk ((Below.refl w.heap.size w).alloc (Nat.le_refl _) (Obj.cells #[.bool rc, .slice B sl b0, .int .i64 m] 122))
  have hl5 : sl ≤ 9223372036854775807 := by rw [← hsl]; exact hr.1
  clear hr hne hrc hmx hsl hn hC
  by_cases hp : 0 < sl
  · go_enter Try.func70, Try.ntmps70
    go_wp2
    go_ret
    exact ⟨rfl, HC.out.below HB.out⟩
  · have hp0 : sl = 0 := by omega
    subst hp0
    go_enter Try.func70, Try.ntmps70
    go_wp2
    go_ret
    exact ⟨rfl, HC.out.below HB.out⟩
end Go.Proofs.Ytiogpainajokkaa

namespace Go.Proofs.Ytiogpainajokkaa
open Go.RowKit
set_option maxRecDepth 100000 in
set_option maxHeartbeats 8000000 in
theorem one_J (w0 w : World) (X S : Nat) (c : GCode) (vs bs is : Value) (ss : List GSpot) (hC : ChkSt w0 w X S c vs bs is ss) (k : Nat) (hkn : k < c.ins.length) (hn : ss.length = c.ins.length + 1) (hm : ss.length ≤ 100000) (i : GIns) (hi : c.ins[k] = i) (hg : 1 ≤ i.op ∧ i.op ≤ 22) (hf : fitsB c i = true) (ho : i.op = 18) (hl64 : (spotAt ss k).stack.length ≤ 64) (m0 : 0 ≤ (spotAt ss k).steps) (m1 : (spotAt ss k).steps ≤ 100000) :
    Calls Try.prog 70 #[.pointer (some ⟨X, 0, none⟩), .int .i64 (k : Int)] w (OnePost w0 X S c vs bs is (oneB c ss k)) := by
  have hk : k < ss.length := by omega
  rw [oneB_ins (by rw [List.getElem?_eq_getElem hkn, hi] : c.ins[k]? = some i)]
  obtain ⟨-, -, -, k3, k4⟩ := hC.chk.cells
  obtain ⟨v, c0, c1, c2, hr, hne, -, -, -⟩ := hC.pl.at k hk
  have hS := hC.pl.lt
  have HC := Fact.mk hC
  have hX : X < w.heap.size := (Array.getElem?_eq_some_iff.1 hC.row).1
  obtain ⟨B, b0, rfl⟩ : ∃ B b0, v = .slice B (spotAt ss k).stack.length b0 := by
    obtain ⟨_, A, a0, e, _⟩ := hr
    exact ⟨A, a0, e⟩
  have hk' : (k : Int) < (ss.length : Int) := by omega
  obtain ⟨rc, hrc⟩ : ∃ rc, (spotAt ss k).reached = rc := ⟨_, rfl⟩
  obtain ⟨m, hmx⟩ : ∃ m, (spotAt ss k).steps = m := ⟨_, rfl⟩
  obtain ⟨op, t, a, nn⟩ := i
  obtain rfl : op = 18 := ho
  obtain ⟨a0, a1⟩ := fit_jump hf (.inl rfl)
  replace a0 : 0 ≤ a := a0
  replace a1 : a < c.ins.length + 1 := a1
  obtain ⟨ka, rfl⟩ : ∃ k : Nat, a = k := ⟨a.toNat, by omega⟩
  have hka : ka < ss.length := by omega
  obtain ⟨l3, A3, c3, e3, -, -, hci⟩ := hC.chk.rd.ins
  subst e3
  obtain ⟨bi, oi, rfl, hci2⟩ := hci (by omega)
  have i0 := hci2 k hkn 0 (.int .u8 c.ins[k].op) rfl
  have i1 := hci2 k hkn 1 (.int .u8 c.ins[k].t) rfl
  have i2 := hci2 k hkn 2 (.int .i64 c.ins[k].a) rfl
  have i3 := hci2 k hkn 3 (.int .i64 c.ins[k].n) rfl
  rw [hi] at i0 i1 i2 i3
  replace i0 : w.cell? ⟨bi, oi + k * 4, none⟩ = some (.int .u8 18) := i0
  replace i1 : w.cell? ⟨bi, oi + k * 4 + 1, none⟩ = some (.int .u8 t) := i1
  replace i2 : w.cell? ⟨bi, oi + k * 4 + 2, none⟩ = some (.int .i64 (ka : Int)) := i2
  replace i3 : w.cell? ⟨bi, oi + k * 4 + 3, none⟩ = some (.int .i64 nn) := i3
  have lbi := World.block_lt_of_cell? w _ i0
  have hkc : (k : Int) < (c.ins.length : Int) := by omega
  have hne2 : ((k : Int) == (c.ins.length : Int)) = false := beq_eq_false_iff_ne.2 (by omega)
  obtain ⟨st, hst⟩ : ∃ st, (spotAt ss k).stack = st := ⟨_, rfl⟩
  obtain ⟨e, he⟩ : ∃ e, effB c ⟨18, t, (ka : Int), nn⟩ st = e := ⟨_, rfl⟩
  have hpl : e.2.length ≤ 2 := by rw [← he]; exact eff_len _ _ _
  have htl5 : e.1.length ≤ 5 := by rw [← he]; exact eff_len1 _ _ _
  obtain ⟨hb2, s1, s2, sz2⟩ := two_blocks w (Obj.cells #[.bool rc, .slice B st.length b0, .int .i64 m] 122) (Obj.cells #[.int .u8 18, .int .u8 t, .int .i64 (ka : Int), .int .i64 nn] 49)
  rw [hst] at hr hl64 c1 ⊢
  rw [he]
  have HE := Fact.mk (eff_any _ X c vs bs _ _ _ ⟨18, t, (ka : Int), nn⟩ st (hC.chk.below hb2) (hr.below hb2) hg hf)
  rw [he] at HE
  have HB2 := Fact.mk hb2
  have S1 := Fact.mk s1
  have I1 := Fact.mk s2
  have HR := Fact.mk hr
  have HST := Fact.mk hst
  have HM := Fact.mk hmx
  have SZ2 := Fact.mk sz2
  rw [hrc] at c0
  rw [hmx] at c2 m0 m1
  obtain ⟨sl, hsl⟩ : ∃ sl, st.length = sl := ⟨_, rfl⟩
  rw [hsl] at c1 hl64
  have SL := Fact.mk hsl
  have HN := Fact.mk hn
  rw [hsl] at HE HB2 S1 I1 HR SZ2
  have hk1 : k + 1 < ss.length := by omega
  have HK1 := Fact.mk hk1
  clear hr hne hrc hmx hst he hb2 s1 s2 hC hci hci2 hf hg hi hn sz2 hsl hk1
  unfold vIns at HE
  by_cases hak : ka ≤ k
  · have hres : oneIns ⟨18, t, (ka : Int), nn⟩ (spotAt ss k) k e ss = (ss, 141) := one_back (by simp [jumpsB]; omega)
    rw [hres]
    clear hres HE
    go_enter Try.func70, Try.ntmps70
    go_wp2
    go_ret
    exact ⟨rfl, HC.out.below HB2.out⟩
  have HB1 : Fact ((jumpsB ⟨18, t, (ka : Int), nn⟩ && decide ((ka : Int) ≤ (k : Int))) = false) := ⟨by simp [jumpsB]; omega⟩
  obtain ⟨r, hres⟩ : ∃ r, oneIns ⟨18, t, (ka : Int), nn⟩ (spotAt ss k) k e ss = r := ⟨_, rfl⟩
  rw [hres]
  have HRES := Fact.mk hres
  clear hres
  go_enter Try.func70, Try.ntmps70
  go_wp2_with fail
  refine HE.out.mono ?_
  rintro e3 W3 ⟨v1, v2, rfl, r1, r2, hb3⟩
  clear HE c0 c1 c2 i0 i1 i2 i3 k3 k4
  obtain ⟨A1, a1', rfl⟩ : ∃ A a', v1 = .slice A e.1.length a' := by
    obtain ⟨_, A, a', e, _⟩ := r1
    exact ⟨A, a', e⟩
  obtain ⟨A2, a2', rfl⟩ : ∃ A a', v2 = .slice A e.2.length a' := by
    obtain ⟨_, A, a', e, _⟩ := r2
    exact ⟨A, a', e⟩
  have B3 := Fact.mk (HB2.out.trans (hb3.mono (by rw [SZ2.out]; omega)))
  have S3 := Fact.mk ((hb3.block w.heap.size (by rw [SZ2.out]; omega)).trans S1.out)
  have I3 := Fact.mk ((hb3.block (w.heap.size + 1) (by rw [SZ2.out]; omega)).trans I1.out)
  have sz3 : w.heap.size + 1 + 1 ≤ W3.heap.size := by have := hb3.size; rwa [SZ2.out] at this
  have R1 := Fact.mk r1
  have R2 := Fact.mk r2
  clear r1 r2 hb3 S1 I1 HB2
  have d1 : W3.cell? ⟨w.heap.size, 1, none⟩ = some (.slice B sl b0) := by rw [cell_of_row _ _ 1 _ _ _ S3.out]; rfl
  have d2 : W3.cell? ⟨w.heap.size, 2, none⟩ = some (.int .i64 m) := by rw [cell_of_row _ _ 2 _ _ _ S3.out]; rfl
  have j0 : W3.cell? ⟨w.heap.size + 1, 0, none⟩ = some (.int .u8 18) := by rw [cell_of_row _ _ 0 _ _ _ I3.out]; rfl
  have j2 : W3.cell? ⟨w.heap.size + 1, 2, none⟩ = some (.int .i64 (ka : Int)) := by rw [cell_of_row _ _ 2 _ _ _ I3.out]; rfl
  obtain ⟨tl, htl⟩ : ∃ tl, e.1.length = tl := ⟨_, rfl⟩
  rw [htl] at R1 htl5 ⊢
  have TL := Fact.mk htl
  clear htl
  by_cases hts : tl ≤ sl
  case neg =>
    have x1 : (sl : Int) - (tl : Int) < 0 := by omega
    have hres : r = (ss, 140) := by rw [← HRES.out]; exact one_take HB1.out (by rw [HST.out]; unfold takesOk; rw [SL.out, TL.out, decide_eq_false hts]; rfl)
    subst hres
    go_wp2
    go_ret
    exact ⟨rfl, HC.out.below B3.out⟩
  obtain ⟨d, rfl⟩ : ∃ d, sl = d + tl := ⟨sl - tl, by omega⟩
  clear hts
  have R3 := Fact.mk (HR.out.below B3.out)
  obtain ⟨q, hq⟩ : ∃ q, decide (st.drop d = e.1) = q := ⟨_, rfl⟩
  have HQ := Fact.mk hq
  have TK : Fact (takesOk (spotAt ss k).stack e.1 = q) := ⟨by
    rw [HST.out]; unfold takesOk
    rw [SL.out, TL.out, decide_eq_true (by omega : tl ≤ d + tl), Nat.add_sub_cancel, hq]; rfl⟩
  clear hq
  have hbc : d + tl ≤ b0 := by
    obtain ⟨_, _, _, e, h, _⟩ := R3.out
    injection e with _ e2 e3
    omega
  have hT := run_tailS W3 B (d + tl) b0 d (by omega)
  have EQ := Fact.mk (eq8_any W3 _ _ _ _ (R3.out.tail d (by omega)) R1.out)
  rw [HQ.out] at EQ
  go_wp2_with fail
  refine EQ.out.mono ?_
  rintro e4 W4 ⟨rfl, q4, rfl⟩
  clear EQ hT
  cases q with
  | false =>
    have hres : r = (ss, 140) := by rw [← HRES.out]; exact one_take HB1.out TK.out
    subst hres
    go_wp2
    go_ret
    exact ⟨rfl, HC.out.below (B3.out.trans ((below_dn9 W3 q4).mono B3.out.size))⟩
  | true =>
    have hH := run_headS (W3.drewN q4) B (d + tl) b0 d (by omega)
    have RH := Fact.mk ((R3.out.head d (by omega)).below (below_dn9 W3 q4))
    obtain ⟨ii, hi, hz0, hz1, hz2⟩ := typ_info
    have hii := Fact.mk hi
    have hzz := Fact.mk (And.intro hz0 (And.intro hz1 hz2))
    have ltk : (st.take d).length = d := by rw [List.length_take, SL.out]; omega
    have HNX : Fact (nextB (spotAt ss k).stack e = st.take d ++ e.2) := ⟨by rw [HST.out]; unfold nextB; rw [SL.out, TL.out, Nat.add_sub_cancel]⟩
    obtain ⟨pl, hpl2⟩ : ∃ pl, e.2.length = pl := ⟨_, rfl⟩
    rw [hpl2] at hpl
    have LEN : Fact ((st.take d ++ e.2).length = d + pl) := ⟨by rw [List.length_append, ltk, hpl2]⟩
    have LTK := Fact.mk ltk
    have PL := Fact.mk hpl2
    rw [hpl2] at R2
    rw [PL.out]
    clear hi hz0 hz1 hz2 ltk hpl2 d1 d2 j0 j2
    obtain ⟨d1, d2, j0, j2⟩ : W3.cell? ⟨w.heap.size, 1, none⟩ = some (.slice B (d + tl) b0) ∧ W3.cell? ⟨w.heap.size, 2, none⟩ = some (.int .i64 m) ∧ W3.cell? ⟨w.heap.size + 1, 0, none⟩ = some (.int .u8 18) ∧ W3.cell? ⟨w.heap.size + 1, 2, none⟩ = some (.int .i64 (ka : Int)) :=
      ⟨by rw [cell_of_row _ _ 1 _ _ _ S3.out]; rfl, by rw [cell_of_row _ _ 2 _ _ _ S3.out]; rfl, by rw [cell_of_row _ _ 0 _ _ _ I3.out]; rfl, by rw [cell_of_row _ _ 2 _ _ _ I3.out]; rfl⟩
    go_wp2_with fail
    refine (clone_any _ _ (st.take d) (by rw [LTK.out]; omega) RH.out).mono ?_
    rintro e5 W5 ⟨v5, rfl, ho5, hb5⟩
    obtain ⟨A5, a5, rfl⟩ : ∃ A a, v5 = .slice A d a := by
      obtain ⟨A, a, e⟩ := ho5.slice2
      rw [LTK.out] at e
      exact ⟨A, a, e⟩
    have B5 : Fact (Below W3.heap.size W3 W5) := ⟨(below_dn9 W3 q4).trans (hb5.mono (Nat.le_refl _))⟩
    have R25 := Fact.mk (R2.out.below B5.out)
    have O5 : Fact (Own 41 1 oneU8 W5 W3.heap.size (.slice A5 d a5) (st.take d)) := ⟨ho5⟩
    clear ho5 hb5 hH RH d1 d2 j0 j2
    have ARM : Fact (∀ v6 W6, Own 41 1 oneU8 W6 W3.heap.size v6 (st.take d ++ e.2) → Row (.slice A5 d a5) W5 v6 W6 → Below W3.heap.size W3 W6 ∧ ∃ A6 a6, v6 = .slice A6 (d + pl) a6) := ⟨fun v6 W6 ho hr => ⟨B5.out.grown hr.g B5.out.size (fun k hk => (World.ownsRow.lt O5.out k hk).1), by
      obtain ⟨A6, a6, h6⟩ := ho.slice2
      rw [LEN.out] at h6
      exact ⟨A6, a6, h6⟩⟩⟩
    by_cases h64 : 64 < d + pl
    · have hres : r = (ss, 140) := by rw [← HRES.out]; exact one_room HB1.out TK.out (by rw [HNX.out, LEN.out]; rw [decide_eq_true (by omega : 64 < d + pl)]; rfl)
      subst hres
      go_wp2_with (at_builtin; refine wpList_append_rd rfl _ _ 120 rfl W3.heap.size 41 ii (.int .u8 0) 1 1 Try.underlying120 hii.out hzz.out.1 hzz.out.2.1 hzz.out.2.2 rfl (by decide) (by decide) oneU8 oneU8_len oneU8_one _ (st.take d) rfl O5.out _ e.2 rfl R25.out (by rw [LTK.out, PL.out]; omega) B5.out.size ?_; intro v6 W6 ho6 hr6; obtain ⟨hb6, A6, a6, rfl⟩ := ARM.out v6 W6 ho6 hr6; have B6 := Fact.mk hb6; have O6 := Fact.mk ho6; have S6 := Fact.mk ((hb6.block w.heap.size (by omega)).trans S3.out); have I6 := Fact.mk ((hb6.block (w.heap.size + 1) (by omega)).trans I3.out); have d2 : W6.cell? ⟨w.heap.size, 2, none⟩ = some (.int .i64 m) := (by rw [cell_of_row _ _ 2 _ _ _ S6.out]; rfl); have j0 : W6.cell? ⟨w.heap.size + 1, 0, none⟩ = some (.int .u8 18) := (by rw [cell_of_row _ _ 0 _ _ _ I6.out]; rfl); have j2 : W6.cell? ⟨w.heap.size + 1, 2, none⟩ = some (.int .i64 (ka : Int)) := (by rw [cell_of_row _ _ 2 _ _ _ I6.out]; rfl); clear ho6 hr6 hb6)
      go_wp2
      go_ret
      exact ⟨rfl, (HC.out.below (B3.out.trans (B6.out.mono B3.out.size)))⟩
    · have hm1 : IntKind.i64.wrap (m + 1) = m + 1 := IntWalk.i64_in _ (by omega)
      go_wp2_with (at_builtin; refine wpList_append_rd rfl _ _ 120 rfl W3.heap.size 41 ii (.int .u8 0) 1 1 Try.underlying120 hii.out hzz.out.1 hzz.out.2.1 hzz.out.2.2 rfl (by decide) (by decide) oneU8 oneU8_len oneU8_one _ (st.take d) rfl O5.out _ e.2 rfl R25.out (by rw [LTK.out, PL.out]; omega) B5.out.size ?_; intro v6 W6 ho6 hr6; obtain ⟨hb6, A6, a6, rfl⟩ := ARM.out v6 W6 ho6 hr6; have B6 := Fact.mk hb6; have O6 := Fact.mk ho6; have S6 := Fact.mk ((hb6.block w.heap.size (by omega)).trans S3.out); have I6 := Fact.mk ((hb6.block (w.heap.size + 1) (by omega)).trans I3.out); have d2 : W6.cell? ⟨w.heap.size, 2, none⟩ = some (.int .i64 m) := (by rw [cell_of_row _ _ 2 _ _ _ S6.out]; rfl); have j0 : W6.cell? ⟨w.heap.size + 1, 0, none⟩ = some (.int .u8 18) := (by rw [cell_of_row _ _ 0 _ _ _ I6.out]; rfl); have j2 : W6.cell? ⟨w.heap.size + 1, 2, none⟩ = some (.int .i64 (ka : Int)) := (by rw [cell_of_row _ _ 2 _ _ _ I6.out]; rfl); clear ho6 hr6 hb6)
      clear hm1
      have HC6 := Fact.mk (HC.out.below (B3.out.trans (B6.out.mono B3.out.size)))
      have G6 := Fact.mk (goes_any w0 W6 X S c vs bs _ ss ka _ (st.take d ++ e.2) (m + 1) HC6.out hka (O6.out.rd oneU8_len) (by rw [LEN.out]; omega) hm)
      refine G6.out.mono ?_
      rintro e7 W7 ⟨rfl, p7, g7⟩
      obtain ⟨q2, hq2⟩ : ∃ q2, goesOk ss ka (st.take d ++ e.2) = q2 := ⟨_, rfl⟩
      rw [hq2] at p7 ⊢
      have HQ2 := Fact.mk hq2
      clear hq2 G6
      cases q2 with
      | false =>
        have hres : r = (ss, 140) := by rw [← HRES.out]; exact one_jump HB1.out TK.out (by rw [HNX.out, LEN.out, decide_eq_false (by omega : ¬ 64 < d + pl)]; rfl) rfl (by rw [HNX.out, Int.toNat_natCast]; exact HQ2.out)
        subst hres
        have P7 := Fact.mk (HC6.out.turn g7 (by simpa using p7) rfl)
        clear p7 g7
        go_wp2
        go_ret
        exact ⟨rfl, P7.out⟩
      | true =>
        rw [if_pos rfl] at p7
        have hl7 : (goesTo ss ka (st.take d ++ e.2) (m + 1)).length = ss.length := goesTo_len _ _ _ _
        have HC7 := Fact.mk (HC6.out.turn g7 p7 hl7)
        have hres : r = (goesTo ss ka (st.take d ++ e.2) (m + 1), 0) := by
          rw [← HRES.out, one_rest HB1.out TK.out (by rw [HNX.out, LEN.out, decide_eq_false (by omega : ¬ 64 < d + pl)]; rfl) (by rw [HNX.out, Int.toNat_natCast, HQ2.out]; rfl), HNX.out, HM.out, Int.toNat_natCast]
          rfl
        subst hres
        have j0 : W7.cell? ⟨w.heap.size + 1, 0, none⟩ = some (.int .u8 18) := by
          rw [cell_of_row _ _ 0 _ _ _ (grown_otherS g7 I6.out (by omega))]; rfl
        clear p7 g7
        go_wp2
        go_ret
        exact ⟨rfl, HC7.out⟩
end Go.Proofs.Ytiogpainajokkaa

namespace Go.Proofs.Ytiogpainajokkaa
open Go.RowKit
set_option maxRecDepth 100000 in
set_option maxHeartbeats 8000000 in
theorem one_I (w0 w : World) (X S : Nat) (c : GCode) (vs bs is : Value) (ss : List GSpot) (hC : ChkSt w0 w X S c vs bs is ss) (k : Nat) (hkn : k < c.ins.length) (hn : ss.length = c.ins.length + 1) (hm : ss.length ≤ 100000) (i : GIns) (hi : c.ins[k] = i) (hg : 1 ≤ i.op ∧ i.op ≤ 22) (hf : fitsB c i = true) (ho : i.op = 19) (hl64 : (spotAt ss k).stack.length ≤ 64) (m0 : 0 ≤ (spotAt ss k).steps) (m1 : (spotAt ss k).steps ≤ 100000) :
    Calls Try.prog 70 #[.pointer (some ⟨X, 0, none⟩), .int .i64 (k : Int)] w (OnePost w0 X S c vs bs is (oneB c ss k)) := by
  have hk : k < ss.length := by omega
  rw [oneB_ins (by rw [List.getElem?_eq_getElem hkn, hi] : c.ins[k]? = some i)]
  obtain ⟨-, -, -, k3, k4⟩ := hC.chk.cells
  obtain ⟨v, c0, c1, c2, hr, hne, -, -, -⟩ := hC.pl.at k hk
  have hS := hC.pl.lt
  have HC := Fact.mk hC
  have hX : X < w.heap.size := (Array.getElem?_eq_some_iff.1 hC.row).1
  obtain ⟨B, b0, rfl⟩ : ∃ B b0, v = .slice B (spotAt ss k).stack.length b0 := by
    obtain ⟨_, A, a0, e, _⟩ := hr
    exact ⟨A, a0, e⟩
  have hk' : (k : Int) < (ss.length : Int) := by omega
  obtain ⟨rc, hrc⟩ : ∃ rc, (spotAt ss k).reached = rc := ⟨_, rfl⟩
  obtain ⟨m, hmx⟩ : ∃ m, (spotAt ss k).steps = m := ⟨_, rfl⟩
  obtain ⟨op, t, a, nn⟩ := i
  obtain rfl : op = 19 := ho
  obtain ⟨a0, a1⟩ := fit_jump hf (.inr rfl)
  replace a0 : 0 ≤ a := a0
  replace a1 : a < c.ins.length + 1 := a1
  obtain ⟨ka, rfl⟩ : ∃ k : Nat, a = k := ⟨a.toNat, by omega⟩
  have hka : ka < ss.length := by omega
  obtain ⟨l3, A3, c3, e3, -, -, hci⟩ := hC.chk.rd.ins
  subst e3
  obtain ⟨bi, oi, rfl, hci2⟩ := hci (by omega)
  have i0 := hci2 k hkn 0 (.int .u8 c.ins[k].op) rfl
  have i1 := hci2 k hkn 1 (.int .u8 c.ins[k].t) rfl
  have i2 := hci2 k hkn 2 (.int .i64 c.ins[k].a) rfl
  have i3 := hci2 k hkn 3 (.int .i64 c.ins[k].n) rfl
  rw [hi] at i0 i1 i2 i3
  replace i0 : w.cell? ⟨bi, oi + k * 4, none⟩ = some (.int .u8 19) := i0
  replace i1 : w.cell? ⟨bi, oi + k * 4 + 1, none⟩ = some (.int .u8 t) := i1
  replace i2 : w.cell? ⟨bi, oi + k * 4 + 2, none⟩ = some (.int .i64 (ka : Int)) := i2
  replace i3 : w.cell? ⟨bi, oi + k * 4 + 3, none⟩ = some (.int .i64 nn) := i3
  have lbi := World.block_lt_of_cell? w _ i0
  have hkc : (k : Int) < (c.ins.length : Int) := by omega
  have hne2 : ((k : Int) == (c.ins.length : Int)) = false := beq_eq_false_iff_ne.2 (by omega)
  obtain ⟨st, hst⟩ : ∃ st, (spotAt ss k).stack = st := ⟨_, rfl⟩
  obtain ⟨e, he⟩ : ∃ e, effB c ⟨19, t, (ka : Int), nn⟩ st = e := ⟨_, rfl⟩
  have hpl : e.2.length ≤ 2 := by rw [← he]; exact eff_len _ _ _
  have htl5 : e.1.length ≤ 5 := by rw [← he]; exact eff_len1 _ _ _
  obtain ⟨hb2, s1, s2, sz2⟩ := two_blocks w (Obj.cells #[.bool rc, .slice B st.length b0, .int .i64 m] 122) (Obj.cells #[.int .u8 19, .int .u8 t, .int .i64 (ka : Int), .int .i64 nn] 49)
  rw [hst] at hr hl64 c1 ⊢
  rw [he]
  have HE := Fact.mk (eff_any _ X c vs bs _ _ _ ⟨19, t, (ka : Int), nn⟩ st (hC.chk.below hb2) (hr.below hb2) hg hf)
  rw [he] at HE
  have HB2 := Fact.mk hb2
  have S1 := Fact.mk s1
  have I1 := Fact.mk s2
  have HR := Fact.mk hr
  have HST := Fact.mk hst
  have HM := Fact.mk hmx
  have SZ2 := Fact.mk sz2
  rw [hrc] at c0
  rw [hmx] at c2 m0 m1
  obtain ⟨sl, hsl⟩ : ∃ sl, st.length = sl := ⟨_, rfl⟩
  rw [hsl] at c1 hl64
  have SL := Fact.mk hsl
  have HN := Fact.mk hn
  rw [hsl] at HE HB2 S1 I1 HR SZ2
  have hk1 : k + 1 < ss.length := by omega
  have HK1 := Fact.mk hk1
  clear hr hne hrc hmx hst he hb2 s1 s2 hC hci hci2 hf hg hi hn sz2 hsl hk1
  unfold vIns at HE
  by_cases hak : ka ≤ k
  · have hres : oneIns ⟨19, t, (ka : Int), nn⟩ (spotAt ss k) k e ss = (ss, 141) := one_back (by simp [jumpsB]; omega)
    rw [hres]
    clear hres HE
    go_enter Try.func70, Try.ntmps70
    go_wp2
    go_ret
    exact ⟨rfl, HC.out.below HB2.out⟩
  have HB1 : Fact ((jumpsB ⟨19, t, (ka : Int), nn⟩ && decide ((ka : Int) ≤ (k : Int))) = false) := ⟨by simp [jumpsB]; omega⟩
  obtain ⟨r, hres⟩ : ∃ r, oneIns ⟨19, t, (ka : Int), nn⟩ (spotAt ss k) k e ss = r := ⟨_, rfl⟩
  rw [hres]
  have HRES := Fact.mk hres
  clear hres
  go_enter Try.func70, Try.ntmps70
  go_wp2_with fail
  refine HE.out.mono ?_
  rintro e3 W3 ⟨v1, v2, rfl, r1, r2, hb3⟩
  clear HE c0 c1 c2 i0 i1 i2 i3 k3 k4
  obtain ⟨A1, a1', rfl⟩ : ∃ A a', v1 = .slice A e.1.length a' := by
    obtain ⟨_, A, a', e, _⟩ := r1
    exact ⟨A, a', e⟩
  obtain ⟨A2, a2', rfl⟩ : ∃ A a', v2 = .slice A e.2.length a' := by
    obtain ⟨_, A, a', e, _⟩ := r2
    exact ⟨A, a', e⟩
  have B3 := Fact.mk (HB2.out.trans (hb3.mono (by rw [SZ2.out]; omega)))
  have S3 := Fact.mk ((hb3.block w.heap.size (by rw [SZ2.out]; omega)).trans S1.out)
  have I3 := Fact.mk ((hb3.block (w.heap.size + 1) (by rw [SZ2.out]; omega)).trans I1.out)
  have sz3 : w.heap.size + 1 + 1 ≤ W3.heap.size := by have := hb3.size; rwa [SZ2.out] at this
  have R1 := Fact.mk r1
  have R2 := Fact.mk r2
  clear r1 r2 hb3 S1 I1 HB2
  have d1 : W3.cell? ⟨w.heap.size, 1, none⟩ = some (.slice B sl b0) := by rw [cell_of_row _ _ 1 _ _ _ S3.out]; rfl
  have d2 : W3.cell? ⟨w.heap.size, 2, none⟩ = some (.int .i64 m) := by rw [cell_of_row _ _ 2 _ _ _ S3.out]; rfl
  have j0 : W3.cell? ⟨w.heap.size + 1, 0, none⟩ = some (.int .u8 19) := by rw [cell_of_row _ _ 0 _ _ _ I3.out]; rfl
  have j2 : W3.cell? ⟨w.heap.size + 1, 2, none⟩ = some (.int .i64 (ka : Int)) := by rw [cell_of_row _ _ 2 _ _ _ I3.out]; rfl
  obtain ⟨tl, htl⟩ : ∃ tl, e.1.length = tl := ⟨_, rfl⟩
  rw [htl] at R1 htl5 ⊢
  have TL := Fact.mk htl
  clear htl
  by_cases hts : tl ≤ sl
  case neg =>
    have x1 : (sl : Int) - (tl : Int) < 0 := by omega
    have hres : r = (ss, 140) := by rw [← HRES.out]; exact one_take HB1.out (by rw [HST.out]; unfold takesOk; rw [SL.out, TL.out, decide_eq_false hts]; rfl)
    subst hres
    go_wp2
    go_ret
    exact ⟨rfl, HC.out.below B3.out⟩
  obtain ⟨d, rfl⟩ : ∃ d, sl = d + tl := ⟨sl - tl, by omega⟩
  clear hts
  have R3 := Fact.mk (HR.out.below B3.out)
  obtain ⟨q, hq⟩ : ∃ q, decide (st.drop d = e.1) = q := ⟨_, rfl⟩
  have HQ := Fact.mk hq
  have TK : Fact (takesOk (spotAt ss k).stack e.1 = q) := ⟨by
    rw [HST.out]; unfold takesOk
    rw [SL.out, TL.out, decide_eq_true (by omega : tl ≤ d + tl), Nat.add_sub_cancel, hq]; rfl⟩
  clear hq
  have hbc : d + tl ≤ b0 := by
    obtain ⟨_, _, _, e, h, _⟩ := R3.out
    injection e with _ e2 e3
    omega
  have hT := run_tailS W3 B (d + tl) b0 d (by omega)
  have EQ := Fact.mk (eq8_any W3 _ _ _ _ (R3.out.tail d (by omega)) R1.out)
  rw [HQ.out] at EQ
  go_wp2_with fail
  refine EQ.out.mono ?_
  rintro e4 W4 ⟨rfl, q4, rfl⟩
  clear EQ hT
  cases q with
  | false =>
    have hres : r = (ss, 140) := by rw [← HRES.out]; exact one_take HB1.out TK.out
    subst hres
    go_wp2
    go_ret
    exact ⟨rfl, HC.out.below (B3.out.trans ((below_dn9 W3 q4).mono B3.out.size))⟩
  | true =>
    have hH := run_headS (W3.drewN q4) B (d + tl) b0 d (by omega)
    have RH := Fact.mk ((R3.out.head d (by omega)).below (below_dn9 W3 q4))
    obtain ⟨ii, hi, hz0, hz1, hz2⟩ := typ_info
    have hii := Fact.mk hi
    have hzz := Fact.mk (And.intro hz0 (And.intro hz1 hz2))
    have ltk : (st.take d).length = d := by rw [List.length_take, SL.out]; omega
    have HNX : Fact (nextB (spotAt ss k).stack e = st.take d ++ e.2) := ⟨by rw [HST.out]; unfold nextB; rw [SL.out, TL.out, Nat.add_sub_cancel]⟩
    obtain ⟨pl, hpl2⟩ : ∃ pl, e.2.length = pl := ⟨_, rfl⟩
    rw [hpl2] at hpl
    have LEN : Fact ((st.take d ++ e.2).length = d + pl) := ⟨by rw [List.length_append, ltk, hpl2]⟩
    have LTK := Fact.mk ltk
    have PL := Fact.mk hpl2
    rw [hpl2] at R2
    rw [PL.out]
    clear hi hz0 hz1 hz2 ltk hpl2 d1 d2 j0 j2
    obtain ⟨d1, d2, j0, j2⟩ : W3.cell? ⟨w.heap.size, 1, none⟩ = some (.slice B (d + tl) b0) ∧ W3.cell? ⟨w.heap.size, 2, none⟩ = some (.int .i64 m) ∧ W3.cell? ⟨w.heap.size + 1, 0, none⟩ = some (.int .u8 19) ∧ W3.cell? ⟨w.heap.size + 1, 2, none⟩ = some (.int .i64 (ka : Int)) :=
      ⟨by rw [cell_of_row _ _ 1 _ _ _ S3.out]; rfl, by rw [cell_of_row _ _ 2 _ _ _ S3.out]; rfl, by rw [cell_of_row _ _ 0 _ _ _ I3.out]; rfl, by rw [cell_of_row _ _ 2 _ _ _ I3.out]; rfl⟩
    go_wp2_with fail
    refine (clone_any _ _ (st.take d) (by rw [LTK.out]; omega) RH.out).mono ?_
    rintro e5 W5 ⟨v5, rfl, ho5, hb5⟩
    obtain ⟨A5, a5, rfl⟩ : ∃ A a, v5 = .slice A d a := by
      obtain ⟨A, a, e⟩ := ho5.slice2
      rw [LTK.out] at e
      exact ⟨A, a, e⟩
    have B5 : Fact (Below W3.heap.size W3 W5) := ⟨(below_dn9 W3 q4).trans (hb5.mono (Nat.le_refl _))⟩
    have R25 := Fact.mk (R2.out.below B5.out)
    have O5 : Fact (Own 41 1 oneU8 W5 W3.heap.size (.slice A5 d a5) (st.take d)) := ⟨ho5⟩
    clear ho5 hb5 hH RH d1 d2 j0 j2
    have ARM : Fact (∀ v6 W6, Own 41 1 oneU8 W6 W3.heap.size v6 (st.take d ++ e.2) → Row (.slice A5 d a5) W5 v6 W6 → Below W3.heap.size W3 W6 ∧ ∃ A6 a6, v6 = .slice A6 (d + pl) a6) := ⟨fun v6 W6 ho hr => ⟨B5.out.grown hr.g B5.out.size (fun k hk => (World.ownsRow.lt O5.out k hk).1), by
      obtain ⟨A6, a6, h6⟩ := ho.slice2
      rw [LEN.out] at h6
      exact ⟨A6, a6, h6⟩⟩⟩
    by_cases h64 : 64 < d + pl
    · have hres : r = (ss, 140) := by rw [← HRES.out]; exact one_room HB1.out TK.out (by rw [HNX.out, LEN.out]; rw [decide_eq_true (by omega : 64 < d + pl)]; rfl)
      subst hres
      go_wp2_with (at_builtin; refine wpList_append_rd rfl _ _ 120 rfl W3.heap.size 41 ii (.int .u8 0) 1 1 Try.underlying120 hii.out hzz.out.1 hzz.out.2.1 hzz.out.2.2 rfl (by decide) (by decide) oneU8 oneU8_len oneU8_one _ (st.take d) rfl O5.out _ e.2 rfl R25.out (by rw [LTK.out, PL.out]; omega) B5.out.size ?_; intro v6 W6 ho6 hr6; obtain ⟨hb6, A6, a6, rfl⟩ := ARM.out v6 W6 ho6 hr6; have B6 := Fact.mk hb6; have O6 := Fact.mk ho6; have S6 := Fact.mk ((hb6.block w.heap.size (by omega)).trans S3.out); have I6 := Fact.mk ((hb6.block (w.heap.size + 1) (by omega)).trans I3.out); have d2 : W6.cell? ⟨w.heap.size, 2, none⟩ = some (.int .i64 m) := (by rw [cell_of_row _ _ 2 _ _ _ S6.out]; rfl); have j0 : W6.cell? ⟨w.heap.size + 1, 0, none⟩ = some (.int .u8 19) := (by rw [cell_of_row _ _ 0 _ _ _ I6.out]; rfl); have j2 : W6.cell? ⟨w.heap.size + 1, 2, none⟩ = some (.int .i64 (ka : Int)) := (by rw [cell_of_row _ _ 2 _ _ _ I6.out]; rfl); clear ho6 hr6 hb6)
      go_wp2
      go_ret
      exact ⟨rfl, (HC.out.below (B3.out.trans (B6.out.mono B3.out.size)))⟩
    · have hm1 : IntKind.i64.wrap (m + 1) = m + 1 := IntWalk.i64_in _ (by omega)
      go_wp2_with (at_builtin; refine wpList_append_rd rfl _ _ 120 rfl W3.heap.size 41 ii (.int .u8 0) 1 1 Try.underlying120 hii.out hzz.out.1 hzz.out.2.1 hzz.out.2.2 rfl (by decide) (by decide) oneU8 oneU8_len oneU8_one _ (st.take d) rfl O5.out _ e.2 rfl R25.out (by rw [LTK.out, PL.out]; omega) B5.out.size ?_; intro v6 W6 ho6 hr6; obtain ⟨hb6, A6, a6, rfl⟩ := ARM.out v6 W6 ho6 hr6; have B6 := Fact.mk hb6; have O6 := Fact.mk ho6; have S6 := Fact.mk ((hb6.block w.heap.size (by omega)).trans S3.out); have I6 := Fact.mk ((hb6.block (w.heap.size + 1) (by omega)).trans I3.out); have d2 : W6.cell? ⟨w.heap.size, 2, none⟩ = some (.int .i64 m) := (by rw [cell_of_row _ _ 2 _ _ _ S6.out]; rfl); have j0 : W6.cell? ⟨w.heap.size + 1, 0, none⟩ = some (.int .u8 19) := (by rw [cell_of_row _ _ 0 _ _ _ I6.out]; rfl); have j2 : W6.cell? ⟨w.heap.size + 1, 2, none⟩ = some (.int .i64 (ka : Int)) := (by rw [cell_of_row _ _ 2 _ _ _ I6.out]; rfl); clear ho6 hr6 hb6)
      clear hm1
      have HC6 := Fact.mk (HC.out.below (B3.out.trans (B6.out.mono B3.out.size)))
      have G6 := Fact.mk (goes_any w0 W6 X S c vs bs _ ss ka _ (st.take d ++ e.2) (m + 1) HC6.out hka (O6.out.rd oneU8_len) (by rw [LEN.out]; omega) hm)
      refine G6.out.mono ?_
      rintro e7 W7 ⟨rfl, p7, g7⟩
      obtain ⟨q2, hq2⟩ : ∃ q2, goesOk ss ka (st.take d ++ e.2) = q2 := ⟨_, rfl⟩
      rw [hq2] at p7 ⊢
      have HQ2 := Fact.mk hq2
      clear hq2 G6
      cases q2 with
      | false =>
        have hres : r = (ss, 140) := by rw [← HRES.out]; exact one_jump HB1.out TK.out (by rw [HNX.out, LEN.out, decide_eq_false (by omega : ¬ 64 < d + pl)]; rfl) rfl (by rw [HNX.out, Int.toNat_natCast]; exact HQ2.out)
        subst hres
        have P7 := Fact.mk (HC6.out.turn g7 (by simpa using p7) rfl)
        clear p7 g7
        go_wp2
        go_ret
        exact ⟨rfl, P7.out⟩
      | true =>
        rw [if_pos rfl] at p7
        have hl7 : (goesTo ss ka (st.take d ++ e.2) (m + 1)).length = ss.length := goesTo_len _ _ _ _
        have HC7 := Fact.mk (HC6.out.turn g7 p7 hl7)
        have j0 : W7.cell? ⟨w.heap.size + 1, 0, none⟩ = some (.int .u8 19) := by
          rw [cell_of_row _ _ 0 _ _ _ (grown_otherS g7 I6.out (by omega))]; rfl
        have d2 : W7.cell? ⟨w.heap.size, 2, none⟩ = some (.int .i64 m) := by
          rw [cell_of_row _ _ 2 _ _ _ (grown_otherS g7 S6.out (by omega))]; rfl
        have R7 := Fact.mk ((O6.out.rd oneU8_len).grownS g7 (fun e => absurd (World.ownsRow.lt O6.out _ e).1 (by omega)))
        clear p7 g7
        have hk1 : k + 1 < ss.length := HK1.out
        have G8 := Fact.mk (goes_any w0 W7 X S c vs bs _ (goesTo ss ka (st.take d ++ e.2) (m + 1)) (k + 1) _ (st.take d ++ e.2) (m + 1) HC7.out (by rw [goesTo_len]; exact hk1) R7.out (by rw [LEN.out]; omega) (by rw [goesTo_len]; exact hm))
        rw [show ((k + 1 : Nat) : Int) = (k : Int) + 1 by omega] at G8
        have hm1 : IntKind.i64.wrap (m + 1) = m + 1 := IntWalk.i64_in _ (by omega)
        have hk2 : IntKind.i64.wrap ((k : Int) + 1) = (k : Int) + 1 := IntWalk.i64_in _ (by omega)
        go_wp2_with fail
        refine G8.out.mono ?_
        rintro e8 W8 ⟨rfl, p8, g8⟩
        clear hm1 hk2 G8
        obtain ⟨q3, hq3⟩ : ∃ q3, goesOk (goesTo ss ka (st.take d ++ e.2) (m + 1)) (k + 1) (st.take d ++ e.2) = q3 := ⟨_, rfl⟩
        rw [hq3] at p8 ⊢
        have HQ3 := Fact.mk hq3
        clear hq3
        cases q3 with
        | false =>
          have hres : r = ((goesTo ss ka (st.take d ++ e.2) (m + 1)), 140) := by
            rw [← HRES.out, one_rest HB1.out TK.out (by rw [HNX.out, LEN.out, decide_eq_false (by omega : ¬ 64 < d + pl)]; rfl) (by rw [HNX.out, Int.toNat_natCast, HQ2.out]; rfl), HNX.out, HM.out, Int.toNat_natCast]
            have hs2 : staysB ⟨19, t, (ka : Int), nn⟩ = true := rfl
            have hj2 : jumpsB ⟨19, t, (ka : Int), nn⟩ = true := rfl
            rw [if_pos hs2, if_pos hj2]
            rw [if_neg (by rw [HQ3.out]; decide)]
          subst hres
          have P8 := Fact.mk (HC7.out.turn g8 (by simpa using p8) rfl)
          clear p8 g8
          go_wp2
          go_ret
          exact ⟨rfl, P8.out⟩
        | true =>
          have hres : r = (goesTo (goesTo ss ka (st.take d ++ e.2) (m + 1)) (k + 1) (st.take d ++ e.2) (m + 1), 0) := by
            rw [← HRES.out, one_rest HB1.out TK.out (by rw [HNX.out, LEN.out, decide_eq_false (by omega : ¬ 64 < d + pl)]; rfl) (by rw [HNX.out, Int.toNat_natCast, HQ2.out]; rfl), HNX.out, HM.out, Int.toNat_natCast]
            have hs2 : staysB ⟨19, t, (ka : Int), nn⟩ = true := rfl
            have hj2 : jumpsB ⟨19, t, (ka : Int), nn⟩ = true := rfl
            rw [if_pos hs2, if_pos hj2]
            rw [if_pos HQ3.out]
          subst hres
          rw [if_pos rfl] at p8
          have P8 := Fact.mk (HC7.out.turn g8 p8 (goesTo_len _ _ _ _))
          clear p8 g8
          go_wp2
          go_ret
          exact ⟨rfl, P8.out⟩
end Go.Proofs.Ytiogpainajokkaa

namespace Go.Proofs.Ytiogpainajokkaa
open Go.RowKit
set_option maxRecDepth 100000 in
set_option maxHeartbeats 8000000 in
theorem one_N (w0 w : World) (X S : Nat) (c : GCode) (vs bs is : Value) (ss : List GSpot) (hC : ChkSt w0 w X S c vs bs is ss) (k : Nat) (hkn : k < c.ins.length) (hn : ss.length = c.ins.length + 1) (hm : ss.length ≤ 100000) (i : GIns) (hi : c.ins[k] = i) (hg : 1 ≤ i.op ∧ i.op ≤ 22) (hf : fitsB c i = true) (ho : i.op = 22) (hl64 : (spotAt ss k).stack.length ≤ 64) (_m0 : 0 ≤ (spotAt ss k).steps) (_m1 : (spotAt ss k).steps ≤ 100000) :
    Calls Try.prog 70 #[.pointer (some ⟨X, 0, none⟩), .int .i64 (k : Int)] w (OnePost w0 X S c vs bs is (oneB c ss k)) := by
  have hk : k < ss.length := by omega
  rw [oneB_ins (by rw [List.getElem?_eq_getElem hkn, hi] : c.ins[k]? = some i)]
  obtain ⟨-, -, -, k3, k4⟩ := hC.chk.cells
  obtain ⟨v, c0, c1, c2, hr, hne, -, -, -⟩ := hC.pl.at k hk
  have hS := hC.pl.lt
  have HC := Fact.mk hC
  have hX : X < w.heap.size := (Array.getElem?_eq_some_iff.1 hC.row).1
  obtain ⟨B, b0, rfl⟩ : ∃ B b0, v = .slice B (spotAt ss k).stack.length b0 := by
    obtain ⟨_, A, a0, e, _⟩ := hr
    exact ⟨A, a0, e⟩
  have hk' : (k : Int) < (ss.length : Int) := by omega
  obtain ⟨rc, hrc⟩ : ∃ rc, (spotAt ss k).reached = rc := ⟨_, rfl⟩
  obtain ⟨m, hmx⟩ : ∃ m, (spotAt ss k).steps = m := ⟨_, rfl⟩
  obtain ⟨op, t, a, nn⟩ := i
  obtain rfl : op = 22 := ho
  obtain ⟨l3, A3, c3, e3, -, -, hci⟩ := hC.chk.rd.ins
  subst e3
  obtain ⟨bi, oi, rfl, hci2⟩ := hci (by omega)
  have i0 := hci2 k hkn 0 (.int .u8 c.ins[k].op) rfl
  have i1 := hci2 k hkn 1 (.int .u8 c.ins[k].t) rfl
  have i2 := hci2 k hkn 2 (.int .i64 c.ins[k].a) rfl
  have i3 := hci2 k hkn 3 (.int .i64 c.ins[k].n) rfl
  rw [hi] at i0 i1 i2 i3
  replace i0 : w.cell? ⟨bi, oi + k * 4, none⟩ = some (.int .u8 22) := i0
  replace i1 : w.cell? ⟨bi, oi + k * 4 + 1, none⟩ = some (.int .u8 t) := i1
  replace i2 : w.cell? ⟨bi, oi + k * 4 + 2, none⟩ = some (.int .i64 a) := i2
  replace i3 : w.cell? ⟨bi, oi + k * 4 + 3, none⟩ = some (.int .i64 nn) := i3
  have lbi := World.block_lt_of_cell? w _ i0
  have hkc : (k : Int) < (c.ins.length : Int) := by omega
  have hne2 : ((k : Int) == (c.ins.length : Int)) = false := beq_eq_false_iff_ne.2 (by omega)
  obtain ⟨st, hst⟩ : ∃ st, (spotAt ss k).stack = st := ⟨_, rfl⟩
  obtain ⟨e, he⟩ : ∃ e, effB c ⟨22, t, a, nn⟩ st = e := ⟨_, rfl⟩
  have hpl : e.2.length ≤ 2 := by rw [← he]; exact eff_len _ _ _
  have htl5 : e.1.length ≤ 5 := by rw [← he]; exact eff_len1 _ _ _
  obtain ⟨hb2, s1, s2, sz2⟩ := two_blocks w (Obj.cells #[.bool rc, .slice B st.length b0, .int .i64 m] 122) (Obj.cells #[.int .u8 22, .int .u8 t, .int .i64 a, .int .i64 nn] 49)
  rw [hst] at hr hl64 c1 ⊢
  rw [he]
  have HE := Fact.mk (eff_any _ X c vs bs _ _ _ ⟨22, t, a, nn⟩ st (hC.chk.below hb2) (hr.below hb2) hg hf)
  rw [he] at HE
  have HB2 := Fact.mk hb2
  have S1 := Fact.mk s1
  have I1 := Fact.mk s2
  have HR := Fact.mk hr
  have HST := Fact.mk hst
  have HM := Fact.mk hmx
  have SZ2 := Fact.mk sz2
  rw [hrc] at c0
  rw [hmx] at c2
  obtain ⟨sl, hsl⟩ : ∃ sl, st.length = sl := ⟨_, rfl⟩
  rw [hsl] at c1 hl64
  have SL := Fact.mk hsl
  have HN := Fact.mk hn
  rw [hsl] at HE HB2 S1 I1 HR SZ2
  have hk1 : k + 1 < ss.length := by omega
  have HK1 := Fact.mk hk1
  clear hr hne hrc hmx hst he hb2 s1 s2 hC hci hci2 hf hg hi hn sz2 hsl hk1
  unfold vIns at HE
  have HB1 : Fact ((jumpsB ⟨22, t, a, nn⟩ && decide (a ≤ (k : Int))) = false) := ⟨by simp [jumpsB]⟩
  obtain ⟨r, hres⟩ : ∃ r, oneIns ⟨22, t, a, nn⟩ (spotAt ss k) k e ss = r := ⟨_, rfl⟩
  rw [hres]
  have HRES := Fact.mk hres
  clear hres
  go_enter Try.func70, Try.ntmps70
  go_wp2_with fail
  refine HE.out.mono ?_
  rintro e3 W3 ⟨v1, v2, rfl, r1, r2, hb3⟩
  clear HE c0 c1 c2 i0 i1 i2 i3 k3 k4
  obtain ⟨A1, a1', rfl⟩ : ∃ A a', v1 = .slice A e.1.length a' := by
    obtain ⟨_, A, a', e, _⟩ := r1
    exact ⟨A, a', e⟩
  obtain ⟨A2, a2', rfl⟩ : ∃ A a', v2 = .slice A e.2.length a' := by
    obtain ⟨_, A, a', e, _⟩ := r2
    exact ⟨A, a', e⟩
  have B3 := Fact.mk (HB2.out.trans (hb3.mono (by rw [SZ2.out]; omega)))
  have S3 := Fact.mk ((hb3.block w.heap.size (by rw [SZ2.out]; omega)).trans S1.out)
  have I3 := Fact.mk ((hb3.block (w.heap.size + 1) (by rw [SZ2.out]; omega)).trans I1.out)
  have sz3 : w.heap.size + 1 + 1 ≤ W3.heap.size := by have := hb3.size; rwa [SZ2.out] at this
  have R1 := Fact.mk r1
  have R2 := Fact.mk r2
  clear r1 r2 hb3 S1 I1 HB2
  have d1 : W3.cell? ⟨w.heap.size, 1, none⟩ = some (.slice B sl b0) := by rw [cell_of_row _ _ 1 _ _ _ S3.out]; rfl
  have d2 : W3.cell? ⟨w.heap.size, 2, none⟩ = some (.int .i64 m) := by rw [cell_of_row _ _ 2 _ _ _ S3.out]; rfl
  have j0 : W3.cell? ⟨w.heap.size + 1, 0, none⟩ = some (.int .u8 22) := by rw [cell_of_row _ _ 0 _ _ _ I3.out]; rfl
  have j2 : W3.cell? ⟨w.heap.size + 1, 2, none⟩ = some (.int .i64 a) := by rw [cell_of_row _ _ 2 _ _ _ I3.out]; rfl
  obtain ⟨tl, htl⟩ : ∃ tl, e.1.length = tl := ⟨_, rfl⟩
  rw [htl] at R1 htl5 ⊢
  have TL := Fact.mk htl
  clear htl
  by_cases hts : tl ≤ sl
  case neg =>
    have x1 : (sl : Int) - (tl : Int) < 0 := by omega
    have hres : r = (ss, 140) := by rw [← HRES.out]; exact one_take HB1.out (by rw [HST.out]; unfold takesOk; rw [SL.out, TL.out, decide_eq_false hts]; rfl)
    subst hres
    go_wp2
    go_ret
    exact ⟨rfl, HC.out.below B3.out⟩
  obtain ⟨d, rfl⟩ : ∃ d, sl = d + tl := ⟨sl - tl, by omega⟩
  clear hts
  have R3 := Fact.mk (HR.out.below B3.out)
  obtain ⟨q, hq⟩ : ∃ q, decide (st.drop d = e.1) = q := ⟨_, rfl⟩
  have HQ := Fact.mk hq
  have TK : Fact (takesOk (spotAt ss k).stack e.1 = q) := ⟨by
    rw [HST.out]; unfold takesOk
    rw [SL.out, TL.out, decide_eq_true (by omega : tl ≤ d + tl), Nat.add_sub_cancel, hq]; rfl⟩
  clear hq
  have hbc : d + tl ≤ b0 := by
    obtain ⟨_, _, _, e, h, _⟩ := R3.out
    injection e with _ e2 e3
    omega
  have hT := run_tailS W3 B (d + tl) b0 d (by omega)
  have EQ := Fact.mk (eq8_any W3 _ _ _ _ (R3.out.tail d (by omega)) R1.out)
  rw [HQ.out] at EQ
  go_wp2_with fail
  refine EQ.out.mono ?_
  rintro e4 W4 ⟨rfl, q4, rfl⟩
  clear EQ hT
  cases q with
  | false =>
    have hres : r = (ss, 140) := by rw [← HRES.out]; exact one_take HB1.out TK.out
    subst hres
    go_wp2
    go_ret
    exact ⟨rfl, HC.out.below (B3.out.trans ((below_dn9 W3 q4).mono B3.out.size))⟩
  | true =>
    have hH := run_headS (W3.drewN q4) B (d + tl) b0 d (by omega)
    have RH := Fact.mk ((R3.out.head d (by omega)).below (below_dn9 W3 q4))
    obtain ⟨ii, hi, hz0, hz1, hz2⟩ := typ_info
    have hii := Fact.mk hi
    have hzz := Fact.mk (And.intro hz0 (And.intro hz1 hz2))
    have ltk : (st.take d).length = d := by rw [List.length_take, SL.out]; omega
    have HNX : Fact (nextB (spotAt ss k).stack e = st.take d ++ e.2) := ⟨by rw [HST.out]; unfold nextB; rw [SL.out, TL.out, Nat.add_sub_cancel]⟩
    obtain ⟨pl, hpl2⟩ : ∃ pl, e.2.length = pl := ⟨_, rfl⟩
    rw [hpl2] at hpl
    have LEN : Fact ((st.take d ++ e.2).length = d + pl) := ⟨by rw [List.length_append, ltk, hpl2]⟩
    have LTK := Fact.mk ltk
    have PL := Fact.mk hpl2
    rw [hpl2] at R2
    rw [PL.out]
    clear hi hz0 hz1 hz2 ltk hpl2 d1 d2 j0 j2
    obtain ⟨d1, d2, j0, j2⟩ : W3.cell? ⟨w.heap.size, 1, none⟩ = some (.slice B (d + tl) b0) ∧ W3.cell? ⟨w.heap.size, 2, none⟩ = some (.int .i64 m) ∧ W3.cell? ⟨w.heap.size + 1, 0, none⟩ = some (.int .u8 22) ∧ W3.cell? ⟨w.heap.size + 1, 2, none⟩ = some (.int .i64 a) :=
      ⟨by rw [cell_of_row _ _ 1 _ _ _ S3.out]; rfl, by rw [cell_of_row _ _ 2 _ _ _ S3.out]; rfl, by rw [cell_of_row _ _ 0 _ _ _ I3.out]; rfl, by rw [cell_of_row _ _ 2 _ _ _ I3.out]; rfl⟩
    go_wp2_with fail
    refine (clone_any _ _ (st.take d) (by rw [LTK.out]; omega) RH.out).mono ?_
    rintro e5 W5 ⟨v5, rfl, ho5, hb5⟩
    obtain ⟨A5, a5, rfl⟩ : ∃ A a, v5 = .slice A d a := by
      obtain ⟨A, a, e⟩ := ho5.slice2
      rw [LTK.out] at e
      exact ⟨A, a, e⟩
    have B5 : Fact (Below W3.heap.size W3 W5) := ⟨(below_dn9 W3 q4).trans (hb5.mono (Nat.le_refl _))⟩
    have R25 := Fact.mk (R2.out.below B5.out)
    have O5 : Fact (Own 41 1 oneU8 W5 W3.heap.size (.slice A5 d a5) (st.take d)) := ⟨ho5⟩
    clear ho5 hb5 hH RH d1 d2 j0 j2
    have ARM : Fact (∀ v6 W6, Own 41 1 oneU8 W6 W3.heap.size v6 (st.take d ++ e.2) → Row (.slice A5 d a5) W5 v6 W6 → Below W3.heap.size W3 W6 ∧ ∃ A6 a6, v6 = .slice A6 (d + pl) a6) := ⟨fun v6 W6 ho hr => ⟨B5.out.grown hr.g B5.out.size (fun k hk => (World.ownsRow.lt O5.out k hk).1), by
      obtain ⟨A6, a6, h6⟩ := ho.slice2
      rw [LEN.out] at h6
      exact ⟨A6, a6, h6⟩⟩⟩
    by_cases h64 : 64 < d + pl
    · have hres : r = (ss, 140) := by rw [← HRES.out]; exact one_room HB1.out TK.out (by rw [HNX.out, LEN.out]; rw [decide_eq_true (by omega : 64 < d + pl)]; rfl)
      subst hres
      go_wp2_with (at_builtin; refine wpList_append_rd rfl _ _ 120 rfl W3.heap.size 41 ii (.int .u8 0) 1 1 Try.underlying120 hii.out hzz.out.1 hzz.out.2.1 hzz.out.2.2 rfl (by decide) (by decide) oneU8 oneU8_len oneU8_one _ (st.take d) rfl O5.out _ e.2 rfl R25.out (by rw [LTK.out, PL.out]; omega) B5.out.size ?_; intro v6 W6 ho6 hr6; obtain ⟨hb6, A6, a6, rfl⟩ := ARM.out v6 W6 ho6 hr6; have B6 := Fact.mk hb6; have O6 := Fact.mk ho6; have S6 := Fact.mk ((hb6.block w.heap.size (by omega)).trans S3.out); have I6 := Fact.mk ((hb6.block (w.heap.size + 1) (by omega)).trans I3.out); have d2 : W6.cell? ⟨w.heap.size, 2, none⟩ = some (.int .i64 m) := (by rw [cell_of_row _ _ 2 _ _ _ S6.out]; rfl); have j0 : W6.cell? ⟨w.heap.size + 1, 0, none⟩ = some (.int .u8 22) := (by rw [cell_of_row _ _ 0 _ _ _ I6.out]; rfl); have j2 : W6.cell? ⟨w.heap.size + 1, 2, none⟩ = some (.int .i64 a) := (by rw [cell_of_row _ _ 2 _ _ _ I6.out]; rfl); clear ho6 hr6 hb6)
      go_wp2
      go_ret
      exact ⟨rfl, (HC.out.below (B3.out.trans (B6.out.mono B3.out.size)))⟩
    · by_cases h0 : 0 < d + pl
      · have hres : r = (ss, 140) := by rw [← HRES.out]; exact one_room HB1.out TK.out (by rw [HNX.out, LEN.out]; rw [decide_eq_true (by omega : 0 < d + pl)]; simp)
        subst hres
        go_wp2_with (at_builtin; refine wpList_append_rd rfl _ _ 120 rfl W3.heap.size 41 ii (.int .u8 0) 1 1 Try.underlying120 hii.out hzz.out.1 hzz.out.2.1 hzz.out.2.2 rfl (by decide) (by decide) oneU8 oneU8_len oneU8_one _ (st.take d) rfl O5.out _ e.2 rfl R25.out (by rw [LTK.out, PL.out]; omega) B5.out.size ?_; intro v6 W6 ho6 hr6; obtain ⟨hb6, A6, a6, rfl⟩ := ARM.out v6 W6 ho6 hr6; have B6 := Fact.mk hb6; have O6 := Fact.mk ho6; have S6 := Fact.mk ((hb6.block w.heap.size (by omega)).trans S3.out); have I6 := Fact.mk ((hb6.block (w.heap.size + 1) (by omega)).trans I3.out); have d2 : W6.cell? ⟨w.heap.size, 2, none⟩ = some (.int .i64 m) := (by rw [cell_of_row _ _ 2 _ _ _ S6.out]; rfl); have j0 : W6.cell? ⟨w.heap.size + 1, 0, none⟩ = some (.int .u8 22) := (by rw [cell_of_row _ _ 0 _ _ _ I6.out]; rfl); have j2 : W6.cell? ⟨w.heap.size + 1, 2, none⟩ = some (.int .i64 a) := (by rw [cell_of_row _ _ 2 _ _ _ I6.out]; rfl); clear ho6 hr6 hb6)
        go_wp2
        go_ret
        exact ⟨rfl, (HC.out.below (B3.out.trans (B6.out.mono B3.out.size)))⟩
      · have h00 : d + pl = 0 := by omega
        have hres : r = (ss, 0) := by rw [← HRES.out, one_rest HB1.out TK.out (by rw [HNX.out, LEN.out, decide_eq_false (by omega : ¬ 64 < d + pl)]; rw [decide_eq_false (by omega : ¬ 0 < d + pl)]; rfl) rfl]; rfl
        subst hres
        go_wp2_with (at_builtin; refine wpList_append_rd rfl _ _ 120 rfl W3.heap.size 41 ii (.int .u8 0) 1 1 Try.underlying120 hii.out hzz.out.1 hzz.out.2.1 hzz.out.2.2 rfl (by decide) (by decide) oneU8 oneU8_len oneU8_one _ (st.take d) rfl O5.out _ e.2 rfl R25.out (by rw [LTK.out, PL.out]; omega) B5.out.size ?_; intro v6 W6 ho6 hr6; obtain ⟨hb6, A6, a6, rfl⟩ := ARM.out v6 W6 ho6 hr6; have B6 := Fact.mk hb6; have O6 := Fact.mk ho6; have S6 := Fact.mk ((hb6.block w.heap.size (by omega)).trans S3.out); have I6 := Fact.mk ((hb6.block (w.heap.size + 1) (by omega)).trans I3.out); have d2 : W6.cell? ⟨w.heap.size, 2, none⟩ = some (.int .i64 m) := (by rw [cell_of_row _ _ 2 _ _ _ S6.out]; rfl); have j0 : W6.cell? ⟨w.heap.size + 1, 0, none⟩ = some (.int .u8 22) := (by rw [cell_of_row _ _ 0 _ _ _ I6.out]; rfl); have j2 : W6.cell? ⟨w.heap.size + 1, 2, none⟩ = some (.int .i64 a) := (by rw [cell_of_row _ _ 2 _ _ _ I6.out]; rfl); clear ho6 hr6 hb6)
        go_wp2
        go_ret
        exact ⟨rfl, (HC.out.below (B3.out.trans (B6.out.mono B3.out.size)))⟩
end Go.Proofs.Ytiogpainajokkaa

namespace Go.Proofs.Ytiogpainajokkaa
open Go.RowKit
set_option maxRecDepth 100000 in
set_option maxHeartbeats 8000000 in
theorem one_O (w0 w : World) (X S : Nat) (c : GCode) (vs bs is : Value) (ss : List GSpot) (hC : ChkSt w0 w X S c vs bs is ss) (k : Nat) (hkn : k < c.ins.length) (hn : ss.length = c.ins.length + 1) (hm : ss.length ≤ 100000) (i : GIns) (hi : c.ins[k] = i) (hg : 1 ≤ i.op ∧ i.op ≤ 22) (hf : fitsB c i = true) (ho : i.op ≠ 18 ∧ i.op ≠ 19 ∧ i.op ≠ 22) (hl64 : (spotAt ss k).stack.length ≤ 64) (m0 : 0 ≤ (spotAt ss k).steps) (m1 : (spotAt ss k).steps ≤ 100000) :
    Calls Try.prog 70 #[.pointer (some ⟨X, 0, none⟩), .int .i64 (k : Int)] w (OnePost w0 X S c vs bs is (oneB c ss k)) := by
  have hk : k < ss.length := by omega
  rw [oneB_ins (by rw [List.getElem?_eq_getElem hkn, hi] : c.ins[k]? = some i)]
  obtain ⟨-, -, -, k3, k4⟩ := hC.chk.cells
  obtain ⟨v, c0, c1, c2, hr, hne, -, -, -⟩ := hC.pl.at k hk
  have hS := hC.pl.lt
  have HC := Fact.mk hC
  have hX : X < w.heap.size := (Array.getElem?_eq_some_iff.1 hC.row).1
  obtain ⟨B, b0, rfl⟩ : ∃ B b0, v = .slice B (spotAt ss k).stack.length b0 := by
    obtain ⟨_, A, a0, e, _⟩ := hr
    exact ⟨A, a0, e⟩
  have hk' : (k : Int) < (ss.length : Int) := by omega
  obtain ⟨rc, hrc⟩ : ∃ rc, (spotAt ss k).reached = rc := ⟨_, rfl⟩
  obtain ⟨m, hmx⟩ : ∃ m, (spotAt ss k).steps = m := ⟨_, rfl⟩
  obtain ⟨op, t, a, nn⟩ := i
  replace ho : op ≠ 18 ∧ op ≠ 19 ∧ op ≠ 22 := ho
  have o1 : (op == 18) = false := beq_eq_false_iff_ne.2 ho.1
  have o2 : (op == 19) = false := beq_eq_false_iff_ne.2 ho.2.1
  have o3 : (op == 22) = false := beq_eq_false_iff_ne.2 ho.2.2
  have o4 : (op != 18) = true := bne_iff_ne.2 ho.1
  have o5 : (op != 22) = true := bne_iff_ne.2 ho.2.2
  have HJ : Fact (jumpsB ⟨op, t, a, nn⟩ = false) := ⟨by simp [jumpsB, ho]⟩
  have HT : Fact (staysB ⟨op, t, a, nn⟩ = true) := ⟨by simp [staysB, ho]⟩
  have H22 : Fact (decide (op = 22) = false) := ⟨decide_eq_false ho.2.2⟩
  clear ho
  obtain ⟨l3, A3, c3, e3, -, -, hci⟩ := hC.chk.rd.ins
  subst e3
  obtain ⟨bi, oi, rfl, hci2⟩ := hci (by omega)
  have i0 := hci2 k hkn 0 (.int .u8 c.ins[k].op) rfl
  have i1 := hci2 k hkn 1 (.int .u8 c.ins[k].t) rfl
  have i2 := hci2 k hkn 2 (.int .i64 c.ins[k].a) rfl
  have i3 := hci2 k hkn 3 (.int .i64 c.ins[k].n) rfl
  rw [hi] at i0 i1 i2 i3
  replace i0 : w.cell? ⟨bi, oi + k * 4, none⟩ = some (.int .u8 op) := i0
  replace i1 : w.cell? ⟨bi, oi + k * 4 + 1, none⟩ = some (.int .u8 t) := i1
  replace i2 : w.cell? ⟨bi, oi + k * 4 + 2, none⟩ = some (.int .i64 a) := i2
  replace i3 : w.cell? ⟨bi, oi + k * 4 + 3, none⟩ = some (.int .i64 nn) := i3
  have lbi := World.block_lt_of_cell? w _ i0
  have hkc : (k : Int) < (c.ins.length : Int) := by omega
  have hne2 : ((k : Int) == (c.ins.length : Int)) = false := beq_eq_false_iff_ne.2 (by omega)
  obtain ⟨st, hst⟩ : ∃ st, (spotAt ss k).stack = st := ⟨_, rfl⟩
  obtain ⟨e, he⟩ : ∃ e, effB c ⟨op, t, a, nn⟩ st = e := ⟨_, rfl⟩
  have hpl : e.2.length ≤ 2 := by rw [← he]; exact eff_len _ _ _
  have htl5 : e.1.length ≤ 5 := by rw [← he]; exact eff_len1 _ _ _
  obtain ⟨hb2, s1, s2, sz2⟩ := two_blocks w (Obj.cells #[.bool rc, .slice B st.length b0, .int .i64 m] 122) (Obj.cells #[.int .u8 op, .int .u8 t, .int .i64 a, .int .i64 nn] 49)
  rw [hst] at hr hl64 c1 ⊢
  rw [he]
  have HE := Fact.mk (eff_any _ X c vs bs _ _ _ ⟨op, t, a, nn⟩ st (hC.chk.below hb2) (hr.below hb2) hg hf)
  rw [he] at HE
  have HB2 := Fact.mk hb2
  have S1 := Fact.mk s1
  have I1 := Fact.mk s2
  have HR := Fact.mk hr
  have HST := Fact.mk hst
  have HM := Fact.mk hmx
  have SZ2 := Fact.mk sz2
  rw [hrc] at c0
  rw [hmx] at c2 m0 m1
  obtain ⟨sl, hsl⟩ : ∃ sl, st.length = sl := ⟨_, rfl⟩
  rw [hsl] at c1 hl64
  have SL := Fact.mk hsl
  have HN := Fact.mk hn
  rw [hsl] at HE HB2 S1 I1 HR SZ2
  have hk1 : k + 1 < ss.length := by omega
  have HK1 := Fact.mk hk1
  clear hr hne hrc hmx hst he hb2 s1 s2 hC hci hci2 hf hg hi hn sz2 hsl hk1
  unfold vIns at HE
  have HB1 : Fact ((jumpsB ⟨op, t, a, nn⟩ && decide (a ≤ (k : Int))) = false) := ⟨by rw [HJ.out]; rfl⟩
  obtain ⟨r, hres⟩ : ∃ r, oneIns ⟨op, t, a, nn⟩ (spotAt ss k) k e ss = r := ⟨_, rfl⟩
  rw [hres]
  have HRES := Fact.mk hres
  clear hres
  go_enter Try.func70, Try.ntmps70
  go_wp2_with fail
  refine HE.out.mono ?_
  rintro e3 W3 ⟨v1, v2, rfl, r1, r2, hb3⟩
  clear HE c0 c1 c2 i0 i1 i2 i3 k3 k4
  obtain ⟨A1, a1', rfl⟩ : ∃ A a', v1 = .slice A e.1.length a' := by
    obtain ⟨_, A, a', e, _⟩ := r1
    exact ⟨A, a', e⟩
  obtain ⟨A2, a2', rfl⟩ : ∃ A a', v2 = .slice A e.2.length a' := by
    obtain ⟨_, A, a', e, _⟩ := r2
    exact ⟨A, a', e⟩
  have B3 := Fact.mk (HB2.out.trans (hb3.mono (by rw [SZ2.out]; omega)))
  have S3 := Fact.mk ((hb3.block w.heap.size (by rw [SZ2.out]; omega)).trans S1.out)
  have I3 := Fact.mk ((hb3.block (w.heap.size + 1) (by rw [SZ2.out]; omega)).trans I1.out)
  have sz3 : w.heap.size + 1 + 1 ≤ W3.heap.size := by have := hb3.size; rwa [SZ2.out] at this
  have R1 := Fact.mk r1
  have R2 := Fact.mk r2
  clear r1 r2 hb3 S1 I1 HB2
  have d1 : W3.cell? ⟨w.heap.size, 1, none⟩ = some (.slice B sl b0) := by rw [cell_of_row _ _ 1 _ _ _ S3.out]; rfl
  have d2 : W3.cell? ⟨w.heap.size, 2, none⟩ = some (.int .i64 m) := by rw [cell_of_row _ _ 2 _ _ _ S3.out]; rfl
  have j0 : W3.cell? ⟨w.heap.size + 1, 0, none⟩ = some (.int .u8 op) := by rw [cell_of_row _ _ 0 _ _ _ I3.out]; rfl
  have j2 : W3.cell? ⟨w.heap.size + 1, 2, none⟩ = some (.int .i64 a) := by rw [cell_of_row _ _ 2 _ _ _ I3.out]; rfl
  obtain ⟨tl, htl⟩ : ∃ tl, e.1.length = tl := ⟨_, rfl⟩
  rw [htl] at R1 htl5 ⊢
  have TL := Fact.mk htl
  clear htl
  by_cases hts : tl ≤ sl
  case neg =>
    have x1 : (sl : Int) - (tl : Int) < 0 := by omega
    have hres : r = (ss, 140) := by rw [← HRES.out]; exact one_take HB1.out (by rw [HST.out]; unfold takesOk; rw [SL.out, TL.out, decide_eq_false hts]; rfl)
    subst hres
    go_wp2
    go_ret
    exact ⟨rfl, HC.out.below B3.out⟩
  obtain ⟨d, rfl⟩ : ∃ d, sl = d + tl := ⟨sl - tl, by omega⟩
  clear hts
  have R3 := Fact.mk (HR.out.below B3.out)
  obtain ⟨q, hq⟩ : ∃ q, decide (st.drop d = e.1) = q := ⟨_, rfl⟩
  have HQ := Fact.mk hq
  have TK : Fact (takesOk (spotAt ss k).stack e.1 = q) := ⟨by
    rw [HST.out]; unfold takesOk
    rw [SL.out, TL.out, decide_eq_true (by omega : tl ≤ d + tl), Nat.add_sub_cancel, hq]; rfl⟩
  clear hq
  have hbc : d + tl ≤ b0 := by
    obtain ⟨_, _, _, e, h, _⟩ := R3.out
    injection e with _ e2 e3
    omega
  have hT := run_tailS W3 B (d + tl) b0 d (by omega)
  have EQ := Fact.mk (eq8_any W3 _ _ _ _ (R3.out.tail d (by omega)) R1.out)
  rw [HQ.out] at EQ
  go_wp2_with fail
  refine EQ.out.mono ?_
  rintro e4 W4 ⟨rfl, q4, rfl⟩
  clear EQ hT
  cases q with
  | false =>
    have hres : r = (ss, 140) := by rw [← HRES.out]; exact one_take HB1.out TK.out
    subst hres
    go_wp2
    go_ret
    exact ⟨rfl, HC.out.below (B3.out.trans ((below_dn9 W3 q4).mono B3.out.size))⟩
  | true =>
    have hH := run_headS (W3.drewN q4) B (d + tl) b0 d (by omega)
    have RH := Fact.mk ((R3.out.head d (by omega)).below (below_dn9 W3 q4))
    obtain ⟨ii, hi, hz0, hz1, hz2⟩ := typ_info
    have hii := Fact.mk hi
    have hzz := Fact.mk (And.intro hz0 (And.intro hz1 hz2))
    have ltk : (st.take d).length = d := by rw [List.length_take, SL.out]; omega
    have HNX : Fact (nextB (spotAt ss k).stack e = st.take d ++ e.2) := ⟨by rw [HST.out]; unfold nextB; rw [SL.out, TL.out, Nat.add_sub_cancel]⟩
    obtain ⟨pl, hpl2⟩ : ∃ pl, e.2.length = pl := ⟨_, rfl⟩
    rw [hpl2] at hpl
    have LEN : Fact ((st.take d ++ e.2).length = d + pl) := ⟨by rw [List.length_append, ltk, hpl2]⟩
    have LTK := Fact.mk ltk
    have PL := Fact.mk hpl2
    rw [hpl2] at R2
    rw [PL.out]
    clear hi hz0 hz1 hz2 ltk hpl2 d1 d2 j0 j2
    obtain ⟨d1, d2, j0, j2⟩ : W3.cell? ⟨w.heap.size, 1, none⟩ = some (.slice B (d + tl) b0) ∧ W3.cell? ⟨w.heap.size, 2, none⟩ = some (.int .i64 m) ∧ W3.cell? ⟨w.heap.size + 1, 0, none⟩ = some (.int .u8 op) ∧ W3.cell? ⟨w.heap.size + 1, 2, none⟩ = some (.int .i64 a) :=
      ⟨by rw [cell_of_row _ _ 1 _ _ _ S3.out]; rfl, by rw [cell_of_row _ _ 2 _ _ _ S3.out]; rfl, by rw [cell_of_row _ _ 0 _ _ _ I3.out]; rfl, by rw [cell_of_row _ _ 2 _ _ _ I3.out]; rfl⟩
    go_wp2_with fail
    refine (clone_any _ _ (st.take d) (by rw [LTK.out]; omega) RH.out).mono ?_
    rintro e5 W5 ⟨v5, rfl, ho5, hb5⟩
    obtain ⟨A5, a5, rfl⟩ : ∃ A a, v5 = .slice A d a := by
      obtain ⟨A, a, e⟩ := ho5.slice2
      rw [LTK.out] at e
      exact ⟨A, a, e⟩
    have B5 : Fact (Below W3.heap.size W3 W5) := ⟨(below_dn9 W3 q4).trans (hb5.mono (Nat.le_refl _))⟩
    have R25 := Fact.mk (R2.out.below B5.out)
    have O5 : Fact (Own 41 1 oneU8 W5 W3.heap.size (.slice A5 d a5) (st.take d)) := ⟨ho5⟩
    clear ho5 hb5 hH RH d1 d2 j0 j2
    have ARM : Fact (∀ v6 W6, Own 41 1 oneU8 W6 W3.heap.size v6 (st.take d ++ e.2) → Row (.slice A5 d a5) W5 v6 W6 → Below W3.heap.size W3 W6 ∧ ∃ A6 a6, v6 = .slice A6 (d + pl) a6) := ⟨fun v6 W6 ho hr => ⟨B5.out.grown hr.g B5.out.size (fun k hk => (World.ownsRow.lt O5.out k hk).1), by
      obtain ⟨A6, a6, h6⟩ := ho.slice2
      rw [LEN.out] at h6
      exact ⟨A6, a6, h6⟩⟩⟩
    by_cases h64 : 64 < d + pl
    · have hres : r = (ss, 140) := by rw [← HRES.out]; exact one_room HB1.out TK.out (by rw [HNX.out, LEN.out]; rw [decide_eq_true (by omega : 64 < d + pl)]; rfl)
      subst hres
      go_wp2_with (at_builtin; refine wpList_append_rd rfl _ _ 120 rfl W3.heap.size 41 ii (.int .u8 0) 1 1 Try.underlying120 hii.out hzz.out.1 hzz.out.2.1 hzz.out.2.2 rfl (by decide) (by decide) oneU8 oneU8_len oneU8_one _ (st.take d) rfl O5.out _ e.2 rfl R25.out (by rw [LTK.out, PL.out]; omega) B5.out.size ?_; intro v6 W6 ho6 hr6; obtain ⟨hb6, A6, a6, rfl⟩ := ARM.out v6 W6 ho6 hr6; have B6 := Fact.mk hb6; have O6 := Fact.mk ho6; have S6 := Fact.mk ((hb6.block w.heap.size (by omega)).trans S3.out); have I6 := Fact.mk ((hb6.block (w.heap.size + 1) (by omega)).trans I3.out); have d2 : W6.cell? ⟨w.heap.size, 2, none⟩ = some (.int .i64 m) := (by rw [cell_of_row _ _ 2 _ _ _ S6.out]; rfl); have j0 : W6.cell? ⟨w.heap.size + 1, 0, none⟩ = some (.int .u8 op) := (by rw [cell_of_row _ _ 0 _ _ _ I6.out]; rfl); have j2 : W6.cell? ⟨w.heap.size + 1, 2, none⟩ = some (.int .i64 a) := (by rw [cell_of_row _ _ 2 _ _ _ I6.out]; rfl); clear ho6 hr6 hb6)
      go_wp2
      go_ret
      exact ⟨rfl, (HC.out.below (B3.out.trans (B6.out.mono B3.out.size)))⟩
    · go_wp2_with (at_builtin; refine wpList_append_rd rfl _ _ 120 rfl W3.heap.size 41 ii (.int .u8 0) 1 1 Try.underlying120 hii.out hzz.out.1 hzz.out.2.1 hzz.out.2.2 rfl (by decide) (by decide) oneU8 oneU8_len oneU8_one _ (st.take d) rfl O5.out _ e.2 rfl R25.out (by rw [LTK.out, PL.out]; omega) B5.out.size ?_; intro v6 W6 ho6 hr6; obtain ⟨hb6, A6, a6, rfl⟩ := ARM.out v6 W6 ho6 hr6; have B6 := Fact.mk hb6; have O6 := Fact.mk ho6; have S6 := Fact.mk ((hb6.block w.heap.size (by omega)).trans S3.out); have I6 := Fact.mk ((hb6.block (w.heap.size + 1) (by omega)).trans I3.out); have d2 : W6.cell? ⟨w.heap.size, 2, none⟩ = some (.int .i64 m) := (by rw [cell_of_row _ _ 2 _ _ _ S6.out]; rfl); have j0 : W6.cell? ⟨w.heap.size + 1, 0, none⟩ = some (.int .u8 op) := (by rw [cell_of_row _ _ 0 _ _ _ I6.out]; rfl); have j2 : W6.cell? ⟨w.heap.size + 1, 2, none⟩ = some (.int .i64 a) := (by rw [cell_of_row _ _ 2 _ _ _ I6.out]; rfl); clear ho6 hr6 hb6)
      have HC6 := Fact.mk (HC.out.below (B3.out.trans (B6.out.mono B3.out.size)))
      have hk1 : k + 1 < ss.length := HK1.out
      have G8 := Fact.mk (goes_any w0 W6 X S c vs bs _ ss (k + 1) _ (st.take d ++ e.2) (m + 1) HC6.out (hk1) (O6.out.rd oneU8_len) (by rw [LEN.out]; omega) (hm))
      rw [show ((k + 1 : Nat) : Int) = (k : Int) + 1 by omega] at G8
      have hm1 : IntKind.i64.wrap (m + 1) = m + 1 := IntWalk.i64_in _ (by omega)
      have hk2 : IntKind.i64.wrap ((k : Int) + 1) = (k : Int) + 1 := IntWalk.i64_in _ (by omega)
      go_wp2_with fail
      refine G8.out.mono ?_
      rintro e8 W8 ⟨rfl, p8, g8⟩
      clear hm1 hk2 G8
      obtain ⟨q3, hq3⟩ : ∃ q3, goesOk ss (k + 1) (st.take d ++ e.2) = q3 := ⟨_, rfl⟩
      rw [hq3] at p8 ⊢
      have HQ3 := Fact.mk hq3
      clear hq3
      cases q3 with
      | false =>
        have hres : r = (ss, 140) := by
          rw [← HRES.out, one_rest HB1.out TK.out (by rw [HNX.out, LEN.out, decide_eq_false (by omega : ¬ 64 < d + pl)]; rw [H22.out]; rfl) (by rw [HJ.out]; rfl), HNX.out, HM.out]
          have hj2 : ¬ jumpsB ⟨op, t, a, nn⟩ = true := by rw [HJ.out]; decide
          rw [if_pos HT.out, if_neg hj2]
          rw [if_neg (by rw [HQ3.out]; decide)]
        subst hres
        have P8 := Fact.mk (HC6.out.turn g8 (by simpa using p8) rfl)
        clear p8 g8
        go_wp2
        go_ret
        exact ⟨rfl, P8.out⟩
      | true =>
        have hres : r = (goesTo ss (k + 1) (st.take d ++ e.2) (m + 1), 0) := by
          rw [← HRES.out, one_rest HB1.out TK.out (by rw [HNX.out, LEN.out, decide_eq_false (by omega : ¬ 64 < d + pl)]; rw [H22.out]; rfl) (by rw [HJ.out]; rfl), HNX.out, HM.out]
          have hj2 : ¬ jumpsB ⟨op, t, a, nn⟩ = true := by rw [HJ.out]; decide
          rw [if_pos HT.out, if_neg hj2]
          rw [if_pos HQ3.out]
        subst hres
        rw [if_pos rfl] at p8
        have P8 := Fact.mk (HC6.out.turn g8 p8 (goesTo_len _ _ _ _))
        clear p8 g8
        go_wp2
        go_ret
        exact ⟨rfl, P8.out⟩
end Go.Proofs.Ytiogpainajokkaa

namespace Go.Proofs.Ytiogpainajokkaa
open Go.RowKit
/-- A program's instructions are as they should be. -/
def InsOk (c : GCode) : Prop := ∀ k (h : k < c.ins.length), (1 ≤ c.ins[k].op ∧ c.ins[k].op ≤ 22) ∧ fitsB c c.ins[k] = true
theorem ins_ok {c : GCode} (h : rightB c = true) : InsOk c := by
  obtain ⟨_, h1, h2, h3, h4, _, _, h5⟩ := right_parts h
  exact fun k hk => ⟨(good_ins (h5 k hk) h1 h2 h4).op, h5 k hk⟩
/-- What holds of all places on the way. -/
structure PlcOk (c : GCode) (ss : List GSpot) : Prop where
  len : ss.length = c.ins.length + 1
  room : ∀ j, (spotAt ss j).stack.length ≤ 64
  lo : ∀ j, 0 ≤ (spotAt ss j).steps
  hi : ∀ j, (spotAt ss j).steps ≤ j
theorem plc_start (c : GCode) : PlcOk c (start c.ins.length) := by
  have e : ∀ j, spotAt (start c.ins.length) j = ⟨true, [], 0⟩ ∨ spotAt (start c.ins.length) j = ⟨false, [], 0⟩ := by
    intro j
    cases j with
    | zero => exact .inl rfl
    | succ j =>
      refine .inr ?_
      unfold spotAt start
      rw [List.getD_cons_succ, List.getD_eq_getElem?_getD, List.getElem?_replicate]
      split <;> rfl
  refine ⟨by simp [start], fun j => ?_, fun j => ?_, fun j => ?_⟩
  all_goals rcases e j with h | h <;> rw [h] <;> simp
theorem plc_goes {c : GCode} {ss : List GSpot} (h : PlcOk c ss) {t : Nat} {st : List Int} {n : Int} (hs : st.length ≤ 64) (h0 : 0 ≤ n) (h1 : n ≤ t) : PlcOk c (goesTo ss t st n) := by
  have e : ∀ j, spotAt (goesTo ss t st n) j = spotAt ss j ∨ (j = t ∧ spotAt (goesTo ss t st n) j = ⟨true, st, max (spotAt ss t).steps n⟩) := by
    intro j
    by_cases hj : j = t
    · subst hj
      by_cases hl : j < ss.length
      · exact .inr ⟨rfl, goesTo_at hl⟩
      · refine .inl ?_
        unfold goesTo
        rw [List.set_eq_of_length_le (by omega)]
    · exact .inl (goesTo_ne hj)
  refine ⟨by rw [goesTo_len]; exact h.len, fun j => ?_, fun j => ?_, fun j => ?_⟩
  · rcases e j with e | ⟨_, e⟩ <;> rw [e]
    · exact h.room j
    · exact hs
  · rcases e j with e | ⟨_, e⟩ <;> rw [e]
    · exact h.lo j
    · show 0 ≤ max _ _
      omega
  · rcases e j with e | ⟨rfl, e⟩ <;> rw [e]
    · exact h.hi j
    · have := h.hi j
      show max _ _ ≤ _
      omega
theorem plc_step {c : GCode} {ss : List GSpot} {k : Nat} (h : PlcOk c ss) (h0 : (stepAt c ss k).2 = 0) : PlcOk c (stepAt c ss k).1 := by
  unfold stepAt at h0 ⊢
  by_cases hr : (spotAt ss k).reached = true
  · rw [if_pos hr] at h0 ⊢
    unfold oneB at h0 ⊢
    cases hi : c.ins[k]? with
    | none => exact h
    | some i =>
      rw [hi] at h0
      have ok := oneIns_ok h0
      show PlcOk c (oneIns i (spotAt ss k) k (effB c i (spotAt ss k).stack) ss).1
      rw [ok.out]
      have h1 := h.lo k
      have h2 := h.hi k
      have hm : PlcOk c (if jumpsB i = true then goesTo ss i.a.toNat (nextB (spotAt ss k).stack (effB c i (spotAt ss k).stack)) ((spotAt ss k).steps + 1) else ss) := by
        by_cases hj : jumpsB i = true
        · rw [if_pos hj]
          have := ok.fwd hj
          exact plc_goes h ok.room (by omega) (by omega)
        · rw [if_neg hj]; exact h
      by_cases hs : staysB i = true
      · rw [if_pos hs]
        exact plc_goes hm ok.room (by omega) (by omega)
      · rw [if_neg hs]; exact hm
  · rw [if_neg hr]; exact h
theorem one_any (w0 w : World) (X S : Nat) (c : GCode) (vs bs is : Value) (ss : List GSpot) (hC : ChkSt w0 w X S c vs bs is ss) (k : Nat) (hk : k ≤ c.ins.length) (hm : c.ins.length ≤ 2000) (hI : InsOk c) (hP : PlcOk c ss) :
    Calls Try.prog 70 #[.pointer (some ⟨X, 0, none⟩), .int .i64 (k : Int)] w (OnePost w0 X S c vs bs is (oneB c ss k)) := by
  have hn := hP.len
  by_cases hkn : k < c.ins.length
  · obtain ⟨h1, h2⟩ := hI k hkn
    have h3 := hP.room k
    have h4 := hP.lo k
    have h5 := hP.hi k
    by_cases e1 : c.ins[k].op = 18
    · exact one_J w0 w X S c vs bs is ss hC k hkn hn (by omega) _ rfl h1 h2 e1 h3 h4 (by omega)
    by_cases e2 : c.ins[k].op = 19
    · exact one_I w0 w X S c vs bs is ss hC k hkn hn (by omega) _ rfl h1 h2 e2 h3 h4 (by omega)
    by_cases e3 : c.ins[k].op = 22
    · exact one_N w0 w X S c vs bs is ss hC k hkn hn (by omega) _ rfl h1 h2 e3 h3 h4 (by omega)
    · exact one_O w0 w X S c vs bs is ss hC k hkn hn (by omega) _ rfl h1 h2 ⟨e1, e2, e3⟩ h3 h4 (by omega)
  · exact one_end w0 w X S c vs bs is ss hC k (by omega) (by omega) (by omega)
end Go.Proofs.Ytiogpainajokkaa

