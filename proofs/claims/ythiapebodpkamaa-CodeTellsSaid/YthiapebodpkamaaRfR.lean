/- Contract of blockhouseref13.Right. Printed by gen_r13r.py. -/
import Derived.Test.YthiapebodpkamaaRfJ
import Derived.Test.YthiapebodpkamaaRightLaw
import Derived.Test.YthiapebodpkamaaSameC
import Derived.Test.YthiapebodpkamaaIdn
import Derived.Deep.RegionHeld3
import Derived.Deep.DeepCutAuto
import Derived.Deep.QuietTactic
import Derived.BigQuiet
namespace Go.Proofs.Ythiapebodpkamaa
open Go.RowKit
def RrSpec (c : GCode) : Prop := namedB c.name = true ∧ c.vars.length ≤ 200 ∧ c.blocks.length ≤ 100 ∧ 1 ≤ c.ins.length ∧ c.ins.length ≤ 2000 ∧ (∀ j, j < c.vars.length → varBad c.vars j = false) ∧ (∀ j, j < c.blocks.length → blockBad c.blocks j = false) ∧ (∀ j, j < c.ins.length → insBad c j = false)
theorem rr_idx {p : Nat → Bool} {n : Nat} : decide (0 ≤ idxFrom p n 0) = false ↔ ∀ i, i < n → p i = false :=
  ⟨fun h => idx_none h, fun h => by rw [idx_of_none h]; rfl⟩
theorem rightB_iff (c : GCode) : rightB c = true ↔ RrSpec c := by
  unfold rightB RrSpec varsBad blocksBad inssBad
  simp only [Bool.and_eq_true, Bool.not_eq_true', decide_eq_true_eq, rr_idx]
  constructor
  · rintro ⟨⟨⟨⟨⟨⟨⟨h1, h2⟩, h3⟩, h4⟩, h5⟩, h6⟩, h7⟩, h8⟩
    exact ⟨h1, h2, h3, h4, h5, h6, h7, h8⟩
  · rintro ⟨h1, h2, h3, h4, h5, h6, h7, h8⟩
    exact ⟨⟨⟨⟨⟨⟨⟨h1, h2⟩, h3⟩, h4⟩, h5⟩, h6⟩, h7⟩, h8⟩
theorem rr_mem {xs : List GVar} {k : Nat} {s : ByteArray} (hk : k ≤ xs.length) : memB s (namesRev xs k) = false ↔ ∀ j (h : j < k), xs[j].name ≠ s := by
  unfold memB namesRev
  rw [List.any_eq_false]
  constructor
  · intro h j hj e
    refine h s ?_ (by simp)
    rw [List.mem_reverse, List.mem_map]
    exact ⟨xs[j], by rw [List.mem_take_iff_getElem]; exact ⟨j, by omega, rfl⟩, e⟩
  · intro h x hx
    rw [List.mem_reverse, List.mem_map] at hx
    obtain ⟨y, hy, rfl⟩ := hx
    rw [List.mem_take_iff_getElem] at hy
    obtain ⟨j, hj, rfl⟩ := hy
    have := h j (by omega)
    simp
    exact fun e => this e.symm
theorem rr_var {xs : List GVar} {k : Nat} (hk : k < xs.length) : varBad xs k = false ↔ (∀ j (h : j < k), xs[j].name ≠ xs[k].name) ∧ namedB xs[k].name = true ∧ decide (xs[k].cls < 1) = false ∧ decide (4 < xs[k].cls) = false ∧ typedB xs[k].ty = true ∧ decide (xs[k].first < (rangeOf xs[k].ty).1) = false ∧ decide ((rangeOf xs[k].ty).2 < xs[k].first) = false := by
  unfold varBad
  rw [List.getElem?_eq_getElem hk]
  show wrongB _ _ = false ↔ _
  unfold wrongB withinB
  rw [← rr_mem (by omega)]
  simp only [Bool.or_eq_false_iff, Bool.not_eq_false', Bool.and_eq_true, decide_eq_true_eq, decide_eq_false_iff_not, Int.not_lt]
  constructor
  · rintro ⟨⟨⟨⟨⟨h1, h2⟩, h3⟩, h4⟩, h5⟩, h6, h7⟩
    exact ⟨h1, h2, h3, h4, h5, h6, h7⟩
  · rintro ⟨h1, h2, h3, h4, h5, h6, h7⟩
    exact ⟨⟨⟨⟨⟨h1, h2⟩, h3⟩, h4⟩, h5⟩, h6, h7⟩
theorem rr_block {xs : List Int} {k : Nat} (hk : k < xs.length) : blockBad xs k = oddB xs[k] := by
  unfold blockBad
  rw [List.getElem?_eq_getElem hk]
theorem rr_ins {c : GCode} {k : Nat} (hk : k < c.ins.length) : insBad c k = !(fitsB c c.ins[k]) := by
  unfold insBad
  rw [List.getElem?_eq_getElem hk]
theorem rr_no {r : Bool} {c : GCode} (h : r = rightB c) (hp : ¬ RrSpec c) : r = false := by
  subst h
  cases e : rightB c with
  | false => rfl
  | true => exact absurd ((rightB_iff c).1 e) hp
theorem rr_step {p : Nat → Bool} {k : Nat} (h : ∀ j, j < k → p j = false) (hk : p k = false) : ∀ j, j < k + 1 → p j = false := by
  intro j hj
  by_cases e : j = k
  · subst e; exact hk
  · exact h j (by omega)
set_option maxHeartbeats 8000000 in
set_option maxRecDepth 100000 in
theorem refRight_any (c : GCode) (hw : c.Wf) (vs bs is : Value) (w : World) (h : CodeRd w c vs bs is) (r : Bool) (hr : r = rightB c) :
    Calls Try.prog 38 #[.agg #[.string c.name, vs, bs, is]] w fun e w' => e = .returned (.bool r) ∧ Below w.heap.size w w' := by
  obtain ⟨A1, q1, c1, rfl, hq1⟩ : ∃ A q c', vs = .slice A q c' ∧ c.vars.length = q := by obtain ⟨_, A, c', h, _⟩ := h.vars; exact ⟨A, _, c', h, rfl⟩
  obtain ⟨A2, q2, c2, rfl, hq2⟩ : ∃ A q c', bs = .slice A q c' ∧ c.blocks.length = q := by obtain ⟨_, A, c', h, _⟩ := h.blocks; exact ⟨A, _, c', h, rfl⟩
  obtain ⟨A3, q3, c3, rfl, hq3⟩ : ∃ A q c', is = .slice A q c' ∧ c.ins.length = q := by obtain ⟨_, A, c', h, _⟩ := h.ins; exact ⟨A, _, c', h, rfl⟩
  have HW := Fact.mk hw
  have hb0 := (Below.refl w.heap.size w).alloc (Nat.le_refl _) (.cells #[.string c.name, .slice A1 q1 c1, .slice A2 q2 c2, .slice A3 q3 c3] 32)
  have H := Fact.mk (h.below hb0)
  have m1 : q1 ≤ 9223372036854775807 := by rw [← hq1]; exact h.vars.1
  have m2 : q2 ≤ 9223372036854775807 := by rw [← hq2]; exact h.blocks.1
  have m3 : q3 ≤ 9223372036854775807 := by rw [← hq3]; exact h.ins.1
  have HR := Fact.mk hr
  obtain ⟨nc, hnc⟩ : ∃ n, c.name = n := ⟨_, rfl⟩
  have row : (w.alloc (.cells #[.string nc, .slice A1 q1 c1, .slice A2 q2 c2, .slice A3 q3 c3] 32)).heap[w.heap.size]? = some (.cells #[.string nc, .slice A1 q1 c1, .slice A2 q2 c2, .slice A3 q3 c3] 32 (0, 0)) := (one_block w _).2.1
  have lt0 : w.heap.size < (w.alloc (.cells #[.string nc, .slice A1 q1 c1, .slice A2 q2 c2, .slice A3 q3 c3] 32)).heap.size := by have := (one_block w (.cells #[.string nc, .slice A1 q1 c1, .slice A2 q2 c2, .slice A3 q3 c3] 32)).2.2; omega
  rw [hnc]
  rw [hnc] at hb0 H
  have HN := Fact.mk hnc
  have HQ := Fact.mk (And.intro hq1 (And.intro hq2 hq3))
  have BW := Fact.mk hb0
  clear h hr hq1 hq2 hq3 hnc hb0 hw
  obtain ⟨bn, hbn⟩ : ∃ b, namedB nc = b := ⟨_, rfl⟩
  have HBN := Fact.mk hbn
  obtain ⟨k0, k1, k2, k3⟩ := sc_row4 row
  go_enter Try.func38, Try.ntmps38
  go_upto_region 1 with (fail)
  generalize w.alloc (.cells #[.string nc, .slice A1 q1 c1, .slice A2 q2 c2, .slice A3 q3 c3] 32) = W0 at *
  have ROW := Fact.mk row
  clear row
  go_wp2_with fail
  refine (rName_any _ _).mono ?_
  rintro e w' ⟨rfl, rfl⟩
  rw [hbn]
  clear hbn
  cases bn with
  | false =>
    have hR := rr_no HR.out (fun e => by have := e.1; rw [HN.out, HBN.out] at this; cases this)
    subst hR
    go_wp2_with fail
    go_ret
    exact ⟨rfl, BW.out⟩
  | true =>
    cases p1 : decide ((200 : Int) < (q1 : Int)) with
    | true =>
      have hR := rr_no HR.out (fun e => by have := e.2.1; have := of_decide_eq_true p1; rw [HQ.out.1] at *; omega)
      subst hR
      go_wp2_with fail
      go_ret
      exact ⟨rfl, BW.out⟩
    | false =>
      cases p2 : decide ((100 : Int) < (q2 : Int)) with
      | true =>
        have hR := rr_no HR.out (fun e => by have := e.2.2.1; have := of_decide_eq_true p2; rw [HQ.out.2.1] at *; omega)
        subst hR
        go_wp2_with fail
        go_ret
        exact ⟨rfl, BW.out⟩
      | false =>
        cases p3 : decide ((q3 : Int) < 1) with
        | true =>
          have hR := rr_no HR.out (fun e => by have := e.2.2.2.1; have := of_decide_eq_true p3; rw [HQ.out.2.2] at *; omega)
          subst hR
          go_wp2_with fail
          go_ret
          exact ⟨rfl, BW.out⟩
        | false =>
          cases p4 : decide ((2000 : Int) < (q3 : Int)) with
          | true =>
            have hR := rr_no HR.out (fun e => by have := e.2.2.2.2.1; have := of_decide_eq_true p4; rw [HQ.out.2.2] at *; omega)
            subst hR
            go_wp2_with fail
            go_ret
            exact ⟨rfl, BW.out⟩
          | false =>
            go_wp2_with fail
            have P1 : Fact (q1 ≤ 200 ∧ q2 ≤ 100 ∧ 1 ≤ q3 ∧ q3 ≤ 2000) := ⟨by have h1 := of_decide_eq_false p1; have h2 := of_decide_eq_false p2; have h3 := of_decide_eq_false p3; have h4 := of_decide_eq_false p4; omega⟩
            clear p1 p2 p3 p4 k0 k1 k2 k3
            go_loopw [3] (fun i wr => ∃ k : Nat, k ≤ q1 ∧ i = .int .i64 k ∧ Fact (Below W0.heap.size W0 wr) ∧ Fact (∀ j, j < k → varBad c.vars j = false)) (fun i _ => q1 - (intOf i).toNat)
            case atStart => exact ⟨0, Nat.zero_le _, rfl, ⟨Below.refl _ _⟩, ⟨fun j hj => absurd hj (by omega)⟩⟩
            case round =>
              obtain ⟨k, hk, rfl, hB, hV⟩ := hrel
              obtain ⟨k0, k1, k2, k3⟩ := sc_row4 ((hB.out.block _ lt0).trans ROW.out)
              by_cases hlt : k < q1
              · obtain ⟨b1, o1, rfl, hx⟩ := rd_cell4 (H.out.vars.below hB.out) k (by rw [HQ.out.1]; exact hlt)
                have hkc : k < c.vars.length := by rw [HQ.out.1]; exact hlt
                have hxw := HW.out.vars _ (List.getElem_mem hkc)
                have hvb := rr_var hkc
                have HC := Fact.mk hkc
                obtain ⟨x, hxx⟩ : ∃ x, c.vars[k]'hkc = x := ⟨_, rfl⟩
                rw [hxx] at hx hvb hxw
                obtain ⟨ht0, ht1⟩ := hxw.ty
                clear hxw
                have x0 := hx 0 _ rfl
                have x1 := hx 1 _ rfl
                have x2 := hx 2 _ rfl
                have x3 := hx 3 _ rfl
                rw [Nat.add_zero] at x0
                clear hx
                have i1 : (k : Int) < (q1 : Int) := by omega
                obtain ⟨xn, hxn⟩ : ∃ n, x.name = n := ⟨_, rfl⟩
                obtain ⟨xc, hxc⟩ : ∃ n, x.cls = n := ⟨_, rfl⟩
                obtain ⟨xt, hxt⟩ : ∃ n, x.ty = n := ⟨_, rfl⟩
                obtain ⟨xf, hxf⟩ : ∃ n, x.first = n := ⟨_, rfl⟩
                rw [hxn, hxc, hxt, hxf] at hvb
                rw [hxn] at x0
                rw [hxc] at x1
                rw [hxt] at x2 ht0 ht1
                rw [hxf] at x3
                obtain ⟨lo, hlo⟩ : ∃ lo, (rangeOf xt).1 = lo := ⟨_, rfl⟩
                obtain ⟨hi, hhi⟩ : ∃ hi, (rangeOf xt).2 = hi := ⟨_, rfl⟩
                obtain ⟨bn, hbn⟩ : ∃ b, namedB xn = b := ⟨_, rfl⟩
                obtain ⟨bt, hbt⟩ : ∃ b, typedB xt = b := ⟨_, rfl⟩
                rw [hbn, hbt, hlo, hhi] at hvb
                have HVB := Fact.mk hvb
                clear hvb hxn hxc hxt hxf hxx
                have lt1 : w.heap.size < wr.heap.size := Nat.lt_of_lt_of_le lt0 hB.out.size
                have e0 := one_block wr (.cells #[.string xn, .int .u8 xc, .int .u8 xt, .int .i64 xf] 41)
                have B1 := Fact.mk (hB.out.trans (e0.1.mono hB.out.size))
                have l2 : w.heap.size < (wr.alloc (.cells #[.string xn, .int .u8 xc, .int .u8 xt, .int .i64 xf] 41)).heap.size := by have := e0.2.2; omega
                have lb : b1 < wr.heap.size := World.block_lt_of_cell? _ _ x0
                obtain ⟨v0, v1, v2, v3⟩ := sc_row4 e0.2.1
                clear e0
                go_upto_region 7 with (fail)
                clear x0 x1 x2 x3 k0 k1 k2 k3
                obtain ⟨g, hg⟩ : ∃ g, wr.heap.size = g := ⟨_, rfl⟩
                rw [hg] at v0 v1 v2 v3
                rw [hg]
                generalize wr.alloc (.cells #[.string xn, .int .u8 xc, .int .u8 xt, .int .i64 xf] 41) = W1 at *
                go_wp2_with fail
                refine (rRange_any _ _).mono ?_
                rintro e w' ⟨rfl, rfl⟩
                rw [hlo, hhi]
                go_wp2_with fail
                refine (rName_any _ _).mono ?_
                rintro e w' ⟨rfl, rfl⟩
                rw [hbn]
                cases bn with
                | false =>
                  have hR := rr_no HR.out (fun e => (by have := (HVB.out.1 (e.2.2.2.2.2.1 k HC.out)).2.1; cases this))
                  subst hR
                  go_wp2_with fail
                  go_ret
                  exact ⟨rfl, BW.out.trans (B1.out.mono BW.out.size)⟩
                | true =>
                  cases p1 : decide (xc < 1) with
                  | true =>
                    have hR := rr_no HR.out (fun e => (by have := (HVB.out.1 (e.2.2.2.2.2.1 k HC.out)).2.2.1; rw [p1] at this; cases this))
                    subst hR
                    go_wp2_with fail
                    go_ret
                    exact ⟨rfl, BW.out.trans (B1.out.mono BW.out.size)⟩
                  | false =>
                    cases p2 : decide (4 < xc) with
                    | true =>
                      have hR := rr_no HR.out (fun e => (by have := (HVB.out.1 (e.2.2.2.2.2.1 k HC.out)).2.2.2.1; rw [p2] at this; cases this))
                      subst hR
                      go_wp2_with fail
                      go_ret
                      exact ⟨rfl, BW.out.trans (B1.out.mono BW.out.size)⟩
                    | false =>
                      go_wp2_with fail
                      refine (rKind_any _ _).mono ?_
                      rintro e w' ⟨rfl, rfl⟩
                      rw [hbt]
                      cases bt with
                      | false =>
                        have hR := rr_no HR.out (fun e => (by have := (HVB.out.1 (e.2.2.2.2.2.1 k HC.out)).2.2.2.2.1; cases this))
                        subst hR
                        go_wp2_with fail
                        go_ret
                        exact ⟨rfl, BW.out.trans (B1.out.mono BW.out.size)⟩
                      | true =>
                        cases p3 : decide (xf < lo) with
                        | true =>
                          have hR := rr_no HR.out (fun e => (by have := (HVB.out.1 (e.2.2.2.2.2.1 k HC.out)).2.2.2.2.2.1; rw [p3] at this; cases this))
                          subst hR
                          go_wp2_with fail
                          go_ret
                          exact ⟨rfl, BW.out.trans (B1.out.mono BW.out.size)⟩
                        | false =>
                          cases p4 : decide (hi < xf) with
                          | true =>
                            have hR := rr_no HR.out (fun e => (by have := (HVB.out.1 (e.2.2.2.2.2.1 k HC.out)).2.2.2.2.2.2; rw [p4] at this; cases this))
                            subst hR
                            go_wp2_with fail
                            go_ret
                            exact ⟨rfl, BW.out.trans (B1.out.mono BW.out.size)⟩
                          | false =>
                            have HOK : Fact ((∀ j (h : j < k), (c.vars[j]'(by have := HC.out; omega)).name ≠ xn) → varBad c.vars k = false) := ⟨fun hd => HVB.out.2 ⟨hd, by simp, p1, p2, by simp, p3, p4⟩⟩
                            go_wp2_with fail
                            clear p1 p2 p3 p4
                            go_loopw [7] (fun i wr => ∃ m q : Nat, m ≤ k ∧ i = .int .i64 m ∧ wr = W1.drewN q ∧ Fact (∀ j (h : j < c.vars.length), j < m → c.vars[j].name ≠ xn)) (fun i _ => k - (intOf i).toNat)
                            case atStart => exact ⟨0, 0, Nat.zero_le _, rfl, rfl, ⟨fun j h hj => absurd hj (by omega)⟩⟩
                            case round =>
                              obtain ⟨m, n1, hm, rfl, rfl, hD⟩ := hrel
                              by_cases hlm : m < k
                              · obtain ⟨k0, k1, k2, k3⟩ := sc_row4 ((B1.out.block _ lt0).trans ROW.out)
                                have hmc : m < c.vars.length := by have := HC.out; omega
                                obtain ⟨b2, o2, hbo, hy⟩ := rd_cell4 (H.out.vars.below B1.out) m hmc
                                cases hbo
                                obtain ⟨yn, hyn⟩ : ∃ n, (c.vars[m]'hmc).name = n := ⟨_, rfl⟩
                                have y0 := hy 0 _ rfl
                                rw [Nat.add_zero, hyn] at y0
                                have i2 : (m : Int) < (q1 : Int) := by omega
                                have i3 : (m : Int) < (k : Int) := by omega
                                have HY := Fact.mk hyn
                                clear hy hyn
                                by_cases hne : yn = xn
                                · subst hne
                                  have EQ : (yn.toList == yn.toList) = true := beq_self_eq_true _
                                  have hR := rr_no HR.out (fun e => (HVB.out.1 (e.2.2.2.2.2.1 k HC.out)).1 m hlm HY.out)
                                  subst hR
                                  go_wp2_with fail
                                  go_quiet (fail)
                                  go_wp2_with fail
                                  go_ret
                                  exact ⟨rfl, below_dnS (below_dnS (BW.out.trans (B1.out.mono BW.out.size)) _) _⟩
                                · have EQ : (yn.toList == xn.toList) = false := by
                                    rw [beq_eq_false_iff_ne]
                                    intro e
                                    exact hne (sc_name e)
                                  go_wp2_with fail
                                  go_quiet (fail)
                                  clear EQ i2 i3
                                  go_wp2_with fail
                                  go_roundw
                                  case rel => exact ⟨m + 1, _, by omega, by go_num, rfl, ⟨fun j h hj => by
                                    by_cases e : j = m
                                    · subst e; rw [HY.out]; exact hne
                                    · exact hD.out j h (by omega)⟩⟩
                                  case measure => simp [intOf]; omega
                              · obtain rfl : m = k := by omega
                                clear v0 v1 v2 v3
                                go_wp2_with fail
                                go_roundw
                                case rel => exact ⟨m + 1, by omega, by go_num, ⟨below_dnS B1.out _⟩, ⟨rr_step hV.out (HOK.out (fun j h => hD.out j _ h))⟩⟩
                                case measure => simp [intOf]; omega
              · obtain rfl : k = q1 := by omega
                have HVS : Fact (∀ j, j < c.vars.length → varBad c.vars j = false) := ⟨by rw [HQ.out.1]; exact hV.out⟩
                clear hV
                generalize hwr : wr = W9 at *
                clear hwr
                have B9 := Fact.mk hB.out
                clear hB
                go_wp2_with fail
                go_loopw [8] (fun i wr => ∃ m q : Nat, m ≤ q2 ∧ i = .int .i64 m ∧ wr = W9.drewN q ∧ Fact (∀ j, j < m → blockBad c.blocks j = false)) (fun i _ => q2 - (intOf i).toNat)
                case atStart => exact ⟨0, 0, Nat.zero_le _, rfl, rfl, ⟨fun j hj => absurd hj (by omega)⟩⟩
                case round =>
                  obtain ⟨m, n1, hm, rfl, rfl, hD⟩ := hrel
                  by_cases hlm : m < q2
                  · have hmc : m < c.blocks.length := by rw [HQ.out.2.1]; exact hlm
                    obtain ⟨b2, o2, rfl, y0⟩ := rd_cell1 (H.out.blocks.below B9.out) m hmc
                    obtain ⟨y, hy⟩ : ∃ n, (c.blocks[m]'hmc) = n := ⟨_, rfl⟩
                    rw [hy] at y0
                    have hbb := rr_block hmc
                    rw [hy] at hbb
                    unfold oddB at hbb
                    have HBB := Fact.mk hbb
                    have HMC := Fact.mk hmc
                    have i2 : (m : Int) < (q2 : Int) := by omega
                    clear hbb hy hmc
                    cases p1 : decide (y < 1) with
                    | true =>
                      have hR := rr_no HR.out (fun e => by have := e.2.2.2.2.2.2.1 m HMC.out; rw [HBB.out, p1] at this; cases this)
                      subst hR
                      go_wp2_with fail
                      go_ret
                      exact ⟨rfl, below_dnS (BW.out.trans (B9.out.mono BW.out.size)) _⟩
                    | false =>
                      cases p2 : decide (11 < y) with
                      | true =>
                        have hR := rr_no HR.out (fun e => by have := e.2.2.2.2.2.2.1 m HMC.out; rw [HBB.out, p1, p2] at this; cases this)
                        subst hR
                        go_wp2_with fail
                        go_ret
                        exact ⟨rfl, below_dnS (BW.out.trans (B9.out.mono BW.out.size)) _⟩
                      | false =>
                        have HOK : Fact (blockBad c.blocks m = false) := ⟨by rw [HBB.out, p1, p2]; rfl⟩
                        go_wp2_with fail
                        go_roundw
                        case rel => exact ⟨m + 1, _, by omega, by go_num, rfl, ⟨rr_step hD.out HOK.out⟩⟩
                        case measure => simp [intOf]; omega
                  · obtain rfl : m = q2 := by omega
                    have HBS : Fact (∀ j, j < c.blocks.length → blockBad c.blocks j = false) := ⟨by rw [HQ.out.2.1]; exact hD.out⟩
                    clear hD
                    go_wp2_with fail
                    clear k0 k1 k2 k3
                    go_loopw [9] (fun i wr => ∃ t : Nat, t ≤ q3 ∧ i = .int .i64 t ∧ Fact (Below W0.heap.size W0 wr) ∧ Fact (∀ j, j < t → insBad c j = false)) (fun i _ => q3 - (intOf i).toNat)
                    case atStart => exact ⟨0, Nat.zero_le _, rfl, ⟨below_dnS B9.out _⟩, ⟨fun j hj => absurd hj (by omega)⟩⟩
                    case round =>
                      obtain ⟨t, ht, rfl, hB, hV⟩ := hrel
                      generalize hw8 : wr = W8 at *
                      clear hw8
                      obtain ⟨k0, k1, k2, k3⟩ := sc_row4 ((hB.out.block _ lt0).trans ROW.out)
                      by_cases hlt : t < q3
                      · have hkc : t < c.ins.length := by rw [HQ.out.2.2]; exact hlt
                        obtain ⟨b1, o1, rfl, hx⟩ := rd_cell4 (H.out.ins.below hB.out) t hkc
                        have hxw := HW.out.ins _ (List.getElem_mem hkc)
                        have hib := rr_ins hkc
                        obtain ⟨x, hxx⟩ : ∃ x, c.ins[t]'hkc = x := ⟨_, rfl⟩
                        rw [hxx] at hx hib hxw
                        have x0 := hx 0 _ rfl
                        have x1 := hx 1 _ rfl
                        have x2 := hx 2 _ rfl
                        have x3 := hx 3 _ rfl
                        rw [Nat.add_zero] at x0
                        clear hx
                        have i1 : (t : Int) < (q3 : Int) := by omega
                        obtain ⟨bf, hbf⟩ : ∃ b, fitsB c x = b := ⟨_, rfl⟩
                        rw [hbf] at hib
                        have HIB := Fact.mk hib
                        have HC := Fact.mk hkc
                        have KEEP : Fact (∀ W', Below W8.heap.size W8 W' → (W'.cell? ⟨w.heap.size, 0, none⟩ = some (.string nc) ∧ W'.cell? ⟨w.heap.size, 1, none⟩ = some (.slice A1 k c1) ∧ W'.cell? ⟨w.heap.size, 2, none⟩ = some (.slice A2 m c2) ∧ W'.cell? ⟨w.heap.size, 3, none⟩ = some (.slice (some ⟨b1, o1, none⟩) q3 c3)) ∧ (W'.cell? ⟨b1, o1 + t * 4, none⟩ = some (.int .u8 x.op) ∧ W'.cell? ⟨b1, o1 + t * 4 + 1, none⟩ = some (.int .u8 x.t) ∧ W'.cell? ⟨b1, o1 + t * 4 + 2, none⟩ = some (.int .i64 x.a) ∧ W'.cell? ⟨b1, o1 + t * 4 + 3, none⟩ = some (.int .i64 x.n)) ∧ Below W8.heap.size W8 W') := ⟨fun W' hb => ⟨⟨cell_below hb _ _ k0, cell_below hb _ _ k1, cell_below hb _ _ k2, cell_below hb _ _ k3⟩, ⟨cell_below hb _ _ x0, cell_below hb _ _ x1, cell_below hb _ _ x2, cell_below hb _ _ x3⟩, hb⟩⟩
                        have CALL : Fact (∀ W', ((W'.cell? ⟨w.heap.size, 0, none⟩ = some (.string nc) ∧ W'.cell? ⟨w.heap.size, 1, none⟩ = some (.slice A1 k c1) ∧ W'.cell? ⟨w.heap.size, 2, none⟩ = some (.slice A2 m c2) ∧ W'.cell? ⟨w.heap.size, 3, none⟩ = some (.slice (some ⟨b1, o1, none⟩) q3 c3)) ∧ (W'.cell? ⟨b1, o1 + t * 4, none⟩ = some (.int .u8 x.op) ∧ W'.cell? ⟨b1, o1 + t * 4 + 1, none⟩ = some (.int .u8 x.t) ∧ W'.cell? ⟨b1, o1 + t * 4 + 2, none⟩ = some (.int .i64 x.a) ∧ W'.cell? ⟨b1, o1 + t * 4 + 3, none⟩ = some (.int .i64 x.n)) ∧ Below W8.heap.size W8 W') → Calls Try.prog 67 #[.agg #[.string nc, .slice A1 k c1, .slice A2 m c2, .slice (some ⟨b1, o1, none⟩) q3 c3], .agg #[.int .u8 x.op, .int .u8 x.t, .int .i64 x.a, .int .i64 x.n]] W' fun e w' => e = .returned (.bool bf) ∧ Below W8.heap.size W8 w') := ⟨fun W' hS => by
                          have := rIns_any c _ _ _ x hxw W' (H.out.below (hB.out.trans (hS.2.2.mono hB.out.size)))
                          rw [HN.out, hbf] at this
                          exact this.mono (fun e w' h => ⟨h.1, hS.2.2.trans (h.2.mono hS.2.2.size)⟩)⟩
                        obtain ⟨op, xt, xa, xn⟩ := x
                        clear hib hbf hxx hxw hkc
                        cases bf with
                        | false =>
                          have hR := rr_no HR.out (fun e => by have := e.2.2.2.2.2.2.2 t HC.out; rw [HIB.out] at this; cases this)
                          subst hR
                          go_upto_region 23 with (fail)
                          go_region_held3 (fun W' => (W'.cell? ⟨w.heap.size, 0, none⟩ = some (.string nc) ∧ W'.cell? ⟨w.heap.size, 1, none⟩ = some (.slice A1 k c1) ∧ W'.cell? ⟨w.heap.size, 2, none⟩ = some (.slice A2 m c2) ∧ W'.cell? ⟨w.heap.size, 3, none⟩ = some (.slice (some ⟨b1, o1, none⟩) q3 c3)) ∧ (W'.cell? ⟨b1, o1 + t * 4, none⟩ = some (.int .u8 op) ∧ W'.cell? ⟨b1, o1 + t * 4 + 1, none⟩ = some (.int .u8 xt) ∧ W'.cell? ⟨b1, o1 + t * 4 + 2, none⟩ = some (.int .i64 xa) ∧ W'.cell? ⟨b1, o1 + t * 4 + 3, none⟩ = some (.int .i64 xn)) ∧ Below W8.heap.size W8 W')
                            (first | exact KEEP.out _ (Below.refl _ _).drew | (refine KEEP.out _ ?_; assumption))
                            (first | (go_at_call 67; (with_reducible refine (CALL.out _ (by assumption)).mono ?_); rintro e W6 ⟨rfl, hb6⟩) | fail)
                          all_goals (go_wp2_with fail; go_ret; exact ⟨rfl, BW.out.trans ((hB.out.trans (hb6.mono hB.out.size)).mono BW.out.size)⟩)
                        | true =>
                          go_upto_region 23 with (fail)
                          go_region_held3 (fun W' => (W'.cell? ⟨w.heap.size, 0, none⟩ = some (.string nc) ∧ W'.cell? ⟨w.heap.size, 1, none⟩ = some (.slice A1 k c1) ∧ W'.cell? ⟨w.heap.size, 2, none⟩ = some (.slice A2 m c2) ∧ W'.cell? ⟨w.heap.size, 3, none⟩ = some (.slice (some ⟨b1, o1, none⟩) q3 c3)) ∧ (W'.cell? ⟨b1, o1 + t * 4, none⟩ = some (.int .u8 op) ∧ W'.cell? ⟨b1, o1 + t * 4 + 1, none⟩ = some (.int .u8 xt) ∧ W'.cell? ⟨b1, o1 + t * 4 + 2, none⟩ = some (.int .i64 xa) ∧ W'.cell? ⟨b1, o1 + t * 4 + 3, none⟩ = some (.int .i64 xn)) ∧ Below W8.heap.size W8 W')
                            (first | exact KEEP.out _ (Below.refl _ _).drew | (refine KEEP.out _ ?_; assumption))
                            (first | (go_at_call 67; (with_reducible refine (CALL.out _ (by assumption)).mono ?_); rintro e W6 ⟨rfl, hb6⟩) | fail)
                          all_goals
                            go_wp2_with fail
                            go_roundw
                            case rel => exact ⟨t + 1, by omega, by go_num, ⟨hB.out.trans (hb6.mono hB.out.size)⟩, ⟨rr_step hV.out HIB.out⟩⟩
                            case measure => simp [intOf]; omega
                      · obtain rfl : t = q3 := by omega
                        have hE : r = true := by rw [HR.out, rightB_iff]; exact ⟨by rw [HN.out, HBN.out], by rw [HQ.out.1]; exact P1.out.1, by rw [HQ.out.2.1]; exact P1.out.2.1, by rw [HQ.out.2.2]; exact P1.out.2.2.1, by rw [HQ.out.2.2]; exact P1.out.2.2.2, HVS.out, HBS.out, by rw [HQ.out.2.2]; exact hV.out⟩
                        subst hE
                        go_wp2_with fail
                        go_ret
                        exact ⟨rfl, BW.out.trans (hB.out.mono BW.out.size)⟩
end Go.Proofs.Ythiapebodpkamaa

