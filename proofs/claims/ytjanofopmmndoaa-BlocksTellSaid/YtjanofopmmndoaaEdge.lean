/- BlocksEdge: the walk. -/
import Derived.Test.YtjanofopmmndoaaLrun
import Derived.Test.YtjanofopmmndoaaBaseM
namespace Go.Proofs.Ytjanofopmmndoaa
open Go.RowKit
def oneBool (x : Bool) : List Value := [.bool x]
theorem oneBool_len (x : Bool) : (oneBool x).length = 1 := rfl
def upB (was q : Bool) : GBlock := ⟨7, was, false, false, false, 0, 0, 0, q, false⟩
def downB (was q : Bool) : GBlock := ⟨8, was, false, false, false, 0, 0, 0, q, false⟩
theorem run_up (was q x : Bool) : runB (upB was q) [truthI x] 0 = (upB x (x && !was), 0) := by
  cases was <;> cases q <;> cases x <;> kernel_rfl
theorem run_down (was q x : Bool) : runB (downB was q) [truthI x] 0 = (downB x (!x && was), 0) := by
  cases was <;> cases q <;> cases x <;> kernel_rfl
theorem outs_up (was q : Bool) : outsB (upB was q) = [truthI q] := by cases was <;> cases q <;> kernel_rfl
theorem outs_down (was q : Bool) : outsB (downB was q) = [truthI q] := by cases was <;> cases q <;> kernel_rfl
theorem below_dn (w : World) (n : Nat) : Below w.heap.size w (w.drewN n) := ⟨rfl, rfl, rfl, Nat.le_refl _, fun _ _ => rfl⟩
structure EdgeSt (w wr : World) (U D : Nat) (was : Bool) : Prop where
  up : ∃ q, BlkAt wr U (upB was q)
  down : ∃ q, BlkAt wr D (downB was q)
  bel : Below w.heap.size w wr
  lo : w.heap.size ≤ U
  ne : U < D
theorem edge_step_up {was q x : Bool} {w : World} {B : Nat} {vs : Value} (hB : BlkAt w B (upB was q)) (hr : Rd oneI64 1 w vs [truthI x]) : Calls Try.prog 21 #[.pointer (some ⟨B, 0, none⟩), .int .i64 0, vs] w (LrunPost w B (upB x (x && !was)) [truthI (x && !was)]) := by
  have h := lrun_any (upB was q) [truthI x] vs 0 w B hB hr (by rw [run_up])
  rwa [run_up, outs_up] at h
theorem edge_step_down {was q x : Bool} {w : World} {B : Nat} {vs : Value} (hB : BlkAt w B (downB was q)) (hr : Rd oneI64 1 w vs [truthI x]) : Calls Try.prog 21 #[.pointer (some ⟨B, 0, none⟩), .int .i64 0, vs] w (LrunPost w B (downB x (!x && was)) [truthI (!x && was)]) := by
  have h := lrun_any (downB was q) [truthI x] vs 0 w B hB hr (by rw [run_down])
  rwa [run_down, outs_down] at h
theorem BlkAt.other {w w' : World} {g i : Nat} {b : GBlock} (h : BlkAt w i b) (hg : w.grownBy w' (some g)) (hne : i ≠ g) : BlkAt w' i b := grown_other hg h hne
theorem Rd.one64 {w : World} {v : Value} {x : Int} (h : Rd oneI64 1 w v [x]) : ∃ b off c, v = .slice (some ⟨b, off, none⟩) 1 c ∧ w.cell? ⟨b, off, none⟩ = some (.int .i64 x) := by
  obtain ⟨b, off, c, e, hc⟩ := h.at64 0 (by simp)
  exact ⟨b, off, c, e, hc⟩
theorem Rd.atBool {w : World} {v : Value} {xs : List Bool} (h : Rd oneBool 1 w v xs) (i : Nat) (hi : i < xs.length) : ∃ b off c, v = .slice (some ⟨b, off, none⟩) xs.length c ∧ w.cell? ⟨b, off + i, none⟩ = some (.bool xs[i]) := by
  obtain ⟨h0, A, c, rfl, h2, h4, h3⟩ := h
  obtain ⟨b, off, rfl, hc⟩ := h3 (by omega)
  refine ⟨b, off, c, rfl, ?_⟩
  have := hc i hi 0 (.bool xs[i]) rfl
  rwa [show off + i * 1 + 0 = off + i by omega] at this
set_option maxRecDepth 100000 in
set_option maxHeartbeats 4000000 in
theorem edge_any (awk : ∀ w, Calls Try.prog 20 #[] w fun e w' => e = .returned (.bool true) ∧ Below w.heap.size w w') (xs : List Bool) (vs : Value) (w : World) (hr : Rd oneBool 1 w vs xs) : Calls Try.prog 10 #[vs] w fun e w' => e = .returned (.bool true) ∧ Below w.heap.size w w' := by
  obtain ⟨A, c, rfl, l0⟩ : ∃ A c, vs = .slice A xs.length c ∧ xs.length ≤ 9223372036854775807 := by
    obtain ⟨h0, A, c, e, _⟩ := hr
    exact ⟨A, c, e, h0⟩
  have HR := Fact.mk hr
  clear hr
  have n7 := new_any 7 (by decide) (by decide)
  have n8 := new_any 8 (by decide) (by decide)
  unfold vBlk newB at n7 n8
  go_enter Try.func10, Try.ntmps10
  go_wp2_with fail
  refine (n7 _).mono ?_
  rintro e W1 ⟨rfl, hb1⟩
  have B1 := Fact.mk hb1
  clear hb1
  go_wp2_with fail
  refine (n8 _).mono ?_
  rintro e W2 ⟨rfl, hb2⟩
  have B2 := Fact.mk hb2
  clear hb2 n7 n8
  go_wp2_with fail
  go_loopw [7, 8] (fun wz i wr => ∃ (k : Nat) (was : Bool), k ≤ xs.length ∧ k ≤ 60 ∧ i = .int .i64 k ∧ wz = .bool was ∧ Fact (EdgeSt w wr W1.heap.size W2.heap.size was)) (fun _ i _ => 60 - (intOf i).toNat)
  case atStart =>
    have h1 := one_block W1 (.cells #[.int .u8 7, .bool false, .bool false, .bool false, .bool false, .int .i64 0, .int .i64 0, .int .i64 0, .bool false, .bool false] 25)
    have h2 := one_block W2 (.cells #[.int .u8 8, .bool false, .bool false, .bool false, .bool false, .int .i64 0, .int .i64 0, .int .i64 0, .bool false, .bool false] 25)
    have hs : W1.heap.size + 1 ≤ W2.heap.size := by have := B2.out.size; simpa using this
    have hu : BlkAt (W1.alloc (.cells #[.int .u8 7, .bool false, .bool false, .bool false, .bool false, .int .i64 0, .int .i64 0, .int .i64 0, .bool false, .bool false] 25)) W1.heap.size (upB false false) := h1.2.1
    exact ⟨0, false, Nat.zero_le _, Nat.zero_le _, rfl, rfl, ⟨⟨⟨false, (hu.below B2.out).below h2.1⟩, ⟨false, h2.2.1⟩, (B1.out.trans ((h1.1.trans (B2.out.mono h1.1.size)).mono B1.out.size)).trans (h2.1.mono (by have := B1.out.size; omega)), B1.out.size, by omega⟩⟩⟩
  case round =>
    obtain ⟨k, was, hk, hk6, rfl, rfl, hst⟩ := hrel
    obtain ⟨⟨q1, hu⟩, ⟨q2, hd⟩, hb, hlo, hne⟩ := hst.out
    have HU := Fact.mk hu
    have HD := Fact.mk hd
    have HB := Fact.mk hb
    have HLO := Fact.mk hlo
    have HNE := Fact.mk hne
    clear hst hu hd hb hlo hne
    by_cases hlt : k < xs.length
    · by_cases h60 : k < 60
      · obtain ⟨bi, oi, ci', e, ci⟩ := (HR.out.below HB.out).atBool k hlt
        cases e
        have i1 : (k : Int) < (xs.length : Int) := by omega
        have i2 : (k : Int) < 60 := by omega
        cases hx : xs[k] with
        | true =>
          rw [hx] at ci
          have CI : Fact (w.cell? ⟨bi, oi + k, none⟩ = some (.bool true)) := ⟨by obtain ⟨_, _, _, e2, h2⟩ := HR.out.atBool k hlt; cases e2; rw [hx] at h2; exact h2⟩
          clear hx
          cases was with
          | true =>
            go_wp2_with fail
            have ha := (Below.refl wr.heap.size wr).alloc (Nat.le_refl _) (Obj.cells #[.int .i64 1] 2)
            refine (edge_step_up (x := true) (HU.out.below ha) (rd_new oneI64 1 oneI64_len wr [truthI true] 2 (by decide))).mono ?_
            rintro e W3 ⟨v1, rfl, hrd1, hu1, hg1, hf1⟩
            have hD3 := (HD.out.below ha).other hg1 (Nat.ne_of_gt HNE.out)
            have hb3 : Below wr.heap.size (wr.alloc (Obj.cells #[.int .i64 1] 2)) W3 ∨ True := Or.inr trivial
            clear hb3
            have sz1 : wr.heap.size + 1 ≤ W3.heap.size := by have := hg1.size; simpa using this
            have G1 := Fact.mk (grown_Below hg1 (B := w.heap.size) (by have := HB.out.size; simp; omega) HLO.out)
            have A1 := Fact.mk ha
            have U3 := Fact.mk hu1
            have D3 := Fact.mk hD3
            have R1 := Fact.mk hrd1
            have F1 := Fact.mk hf1
            clear ha hu1 hD3 hrd1 hf1 hg1
            go_wp2_with fail
            have ha := (Below.refl W3.heap.size W3).alloc (Nat.le_refl _) (Obj.cells #[.int .i64 1] 2)
            refine (edge_step_down (x := true) (D3.out.below ha) (rd_new oneI64 1 oneI64_len W3 [truthI true] 2 (by decide))).mono ?_
            rintro e W4 ⟨v2, rfl, hrd2, hd2, hg2, hf2⟩
            have hU4 := (U3.out.below ha).other hg2 (Nat.ne_of_lt HNE.out)
            have hr1 := (R1.out.below ha).grown hg2 (fun e => absurd (F1.out _ e) (by have := HD.out.lt; simp; omega))
            have hbw : Below w.heap.size w W4 := (HB.out.trans ((A1.out.mono HB.out.size).trans G1.out)).trans ((ha.mono (by have := HB.out.size; omega)).trans (grown_Below hg2 (by have := HB.out.size; simp; omega) (Nat.le_trans HLO.out (Nat.le_of_lt HNE.out))))
            obtain ⟨p1, o1, k1, rfl, q1⟩ := hr1.one64
            obtain ⟨p2, o2, k2, rfl, q2⟩ := hrd2.one64
            have hq1 : W4.cell? ⟨p1, o1, none⟩ = some (.int .i64 0) := q1
            have hq2 : W4.cell? ⟨p2, o2, none⟩ = some (.int .i64 0) := q2
            have hc4 : W4.cell? ⟨bi, oi + k, none⟩ = some (.bool true) := cell_below hbw _ _ CI.out
            have U4 := Fact.mk hU4
            have D4 := Fact.mk hd2
            have B4 := Fact.mk hbw
            clear ha hr1 hbw hrd2 hd2 hg2 hf2 hU4 q1 q2 ci
            go_wp2_with fail
            go_quiet (fail)
            have hc5 : (W4.drewN nq).cell? ⟨bi, oi + k, none⟩ = some (.bool true) := hc4
            clear hq1 hq2
            go_wp2_with fail
            go_roundw
            case rel => exact ⟨k + 1, true, by omega, by omega, by go_num, rfl, ⟨⟨⟨_, U4.out.below (below_dn W4 nq)⟩, ⟨_, D4.out.below (below_dn W4 nq)⟩, B4.out.trans ((below_dn W4 nq).mono B4.out.size), HLO.out, HNE.out⟩⟩⟩
            case measure => simp [intOf]; omega
          | false =>
            go_wp2_with fail
            have ha := (Below.refl wr.heap.size wr).alloc (Nat.le_refl _) (Obj.cells #[.int .i64 1] 2)
            refine (edge_step_up (x := true) (HU.out.below ha) (rd_new oneI64 1 oneI64_len wr [truthI true] 2 (by decide))).mono ?_
            rintro e W3 ⟨v1, rfl, hrd1, hu1, hg1, hf1⟩
            have hD3 := (HD.out.below ha).other hg1 (Nat.ne_of_gt HNE.out)
            have hb3 : Below wr.heap.size (wr.alloc (Obj.cells #[.int .i64 1] 2)) W3 ∨ True := Or.inr trivial
            clear hb3
            have sz1 : wr.heap.size + 1 ≤ W3.heap.size := by have := hg1.size; simpa using this
            have G1 := Fact.mk (grown_Below hg1 (B := w.heap.size) (by have := HB.out.size; simp; omega) HLO.out)
            have A1 := Fact.mk ha
            have U3 := Fact.mk hu1
            have D3 := Fact.mk hD3
            have R1 := Fact.mk hrd1
            have F1 := Fact.mk hf1
            clear ha hu1 hD3 hrd1 hf1 hg1
            go_wp2_with fail
            have ha := (Below.refl W3.heap.size W3).alloc (Nat.le_refl _) (Obj.cells #[.int .i64 1] 2)
            refine (edge_step_down (x := true) (D3.out.below ha) (rd_new oneI64 1 oneI64_len W3 [truthI true] 2 (by decide))).mono ?_
            rintro e W4 ⟨v2, rfl, hrd2, hd2, hg2, hf2⟩
            have hU4 := (U3.out.below ha).other hg2 (Nat.ne_of_lt HNE.out)
            have hr1 := (R1.out.below ha).grown hg2 (fun e => absurd (F1.out _ e) (by have := HD.out.lt; simp; omega))
            have hbw : Below w.heap.size w W4 := (HB.out.trans ((A1.out.mono HB.out.size).trans G1.out)).trans ((ha.mono (by have := HB.out.size; omega)).trans (grown_Below hg2 (by have := HB.out.size; simp; omega) (Nat.le_trans HLO.out (Nat.le_of_lt HNE.out))))
            obtain ⟨p1, o1, k1, rfl, q1⟩ := hr1.one64
            obtain ⟨p2, o2, k2, rfl, q2⟩ := hrd2.one64
            have hq1 : W4.cell? ⟨p1, o1, none⟩ = some (.int .i64 1) := q1
            have hq2 : W4.cell? ⟨p2, o2, none⟩ = some (.int .i64 0) := q2
            have hc4 : W4.cell? ⟨bi, oi + k, none⟩ = some (.bool true) := cell_below hbw _ _ CI.out
            have U4 := Fact.mk hU4
            have D4 := Fact.mk hd2
            have B4 := Fact.mk hbw
            clear ha hr1 hbw hrd2 hd2 hg2 hf2 hU4 q1 q2 ci
            go_wp2_with fail
            go_quiet (fail)
            have hc5 : (W4.drewN nq).cell? ⟨bi, oi + k, none⟩ = some (.bool true) := hc4
            clear hq1 hq2
            go_wp2_with fail
            go_roundw
            case rel => exact ⟨k + 1, true, by omega, by omega, by go_num, rfl, ⟨⟨⟨_, U4.out.below (below_dn W4 nq)⟩, ⟨_, D4.out.below (below_dn W4 nq)⟩, B4.out.trans ((below_dn W4 nq).mono B4.out.size), HLO.out, HNE.out⟩⟩⟩
            case measure => simp [intOf]; omega
        | false =>
          rw [hx] at ci
          have CI : Fact (w.cell? ⟨bi, oi + k, none⟩ = some (.bool false)) := ⟨by obtain ⟨_, _, _, e2, h2⟩ := HR.out.atBool k hlt; cases e2; rw [hx] at h2; exact h2⟩
          clear hx
          cases was with
          | true =>
            go_wp2_with fail
            have ha := (Below.refl wr.heap.size wr).alloc (Nat.le_refl _) (Obj.cells #[.int .i64 0] 2)
            refine (edge_step_up (x := false) (HU.out.below ha) (rd_new oneI64 1 oneI64_len wr [truthI false] 2 (by decide))).mono ?_
            rintro e W3 ⟨v1, rfl, hrd1, hu1, hg1, hf1⟩
            have hD3 := (HD.out.below ha).other hg1 (Nat.ne_of_gt HNE.out)
            have hb3 : Below wr.heap.size (wr.alloc (Obj.cells #[.int .i64 0] 2)) W3 ∨ True := Or.inr trivial
            clear hb3
            have sz1 : wr.heap.size + 1 ≤ W3.heap.size := by have := hg1.size; simpa using this
            have G1 := Fact.mk (grown_Below hg1 (B := w.heap.size) (by have := HB.out.size; simp; omega) HLO.out)
            have A1 := Fact.mk ha
            have U3 := Fact.mk hu1
            have D3 := Fact.mk hD3
            have R1 := Fact.mk hrd1
            have F1 := Fact.mk hf1
            clear ha hu1 hD3 hrd1 hf1 hg1
            go_wp2_with fail
            have ha := (Below.refl W3.heap.size W3).alloc (Nat.le_refl _) (Obj.cells #[.int .i64 0] 2)
            refine (edge_step_down (x := false) (D3.out.below ha) (rd_new oneI64 1 oneI64_len W3 [truthI false] 2 (by decide))).mono ?_
            rintro e W4 ⟨v2, rfl, hrd2, hd2, hg2, hf2⟩
            have hU4 := (U3.out.below ha).other hg2 (Nat.ne_of_lt HNE.out)
            have hr1 := (R1.out.below ha).grown hg2 (fun e => absurd (F1.out _ e) (by have := HD.out.lt; simp; omega))
            have hbw : Below w.heap.size w W4 := (HB.out.trans ((A1.out.mono HB.out.size).trans G1.out)).trans ((ha.mono (by have := HB.out.size; omega)).trans (grown_Below hg2 (by have := HB.out.size; simp; omega) (Nat.le_trans HLO.out (Nat.le_of_lt HNE.out))))
            obtain ⟨p1, o1, k1, rfl, q1⟩ := hr1.one64
            obtain ⟨p2, o2, k2, rfl, q2⟩ := hrd2.one64
            have hq1 : W4.cell? ⟨p1, o1, none⟩ = some (.int .i64 0) := q1
            have hq2 : W4.cell? ⟨p2, o2, none⟩ = some (.int .i64 1) := q2
            have hc4 : W4.cell? ⟨bi, oi + k, none⟩ = some (.bool false) := cell_below hbw _ _ CI.out
            have U4 := Fact.mk hU4
            have D4 := Fact.mk hd2
            have B4 := Fact.mk hbw
            clear ha hr1 hbw hrd2 hd2 hg2 hf2 hU4 q1 q2 ci
            go_wp2_with fail
            go_quiet (fail)
            have hc5 : (W4.drewN nq).cell? ⟨bi, oi + k, none⟩ = some (.bool false) := hc4
            clear hq1 hq2
            go_wp2_with fail
            go_roundw
            case rel => exact ⟨k + 1, false, by omega, by omega, by go_num, rfl, ⟨⟨⟨_, U4.out.below (below_dn W4 nq)⟩, ⟨_, D4.out.below (below_dn W4 nq)⟩, B4.out.trans ((below_dn W4 nq).mono B4.out.size), HLO.out, HNE.out⟩⟩⟩
            case measure => simp [intOf]; omega
          | false =>
            go_wp2_with fail
            have ha := (Below.refl wr.heap.size wr).alloc (Nat.le_refl _) (Obj.cells #[.int .i64 0] 2)
            refine (edge_step_up (x := false) (HU.out.below ha) (rd_new oneI64 1 oneI64_len wr [truthI false] 2 (by decide))).mono ?_
            rintro e W3 ⟨v1, rfl, hrd1, hu1, hg1, hf1⟩
            have hD3 := (HD.out.below ha).other hg1 (Nat.ne_of_gt HNE.out)
            have hb3 : Below wr.heap.size (wr.alloc (Obj.cells #[.int .i64 0] 2)) W3 ∨ True := Or.inr trivial
            clear hb3
            have sz1 : wr.heap.size + 1 ≤ W3.heap.size := by have := hg1.size; simpa using this
            have G1 := Fact.mk (grown_Below hg1 (B := w.heap.size) (by have := HB.out.size; simp; omega) HLO.out)
            have A1 := Fact.mk ha
            have U3 := Fact.mk hu1
            have D3 := Fact.mk hD3
            have R1 := Fact.mk hrd1
            have F1 := Fact.mk hf1
            clear ha hu1 hD3 hrd1 hf1 hg1
            go_wp2_with fail
            have ha := (Below.refl W3.heap.size W3).alloc (Nat.le_refl _) (Obj.cells #[.int .i64 0] 2)
            refine (edge_step_down (x := false) (D3.out.below ha) (rd_new oneI64 1 oneI64_len W3 [truthI false] 2 (by decide))).mono ?_
            rintro e W4 ⟨v2, rfl, hrd2, hd2, hg2, hf2⟩
            have hU4 := (U3.out.below ha).other hg2 (Nat.ne_of_lt HNE.out)
            have hr1 := (R1.out.below ha).grown hg2 (fun e => absurd (F1.out _ e) (by have := HD.out.lt; simp; omega))
            have hbw : Below w.heap.size w W4 := (HB.out.trans ((A1.out.mono HB.out.size).trans G1.out)).trans ((ha.mono (by have := HB.out.size; omega)).trans (grown_Below hg2 (by have := HB.out.size; simp; omega) (Nat.le_trans HLO.out (Nat.le_of_lt HNE.out))))
            obtain ⟨p1, o1, k1, rfl, q1⟩ := hr1.one64
            obtain ⟨p2, o2, k2, rfl, q2⟩ := hrd2.one64
            have hq1 : W4.cell? ⟨p1, o1, none⟩ = some (.int .i64 0) := q1
            have hq2 : W4.cell? ⟨p2, o2, none⟩ = some (.int .i64 0) := q2
            have hc4 : W4.cell? ⟨bi, oi + k, none⟩ = some (.bool false) := cell_below hbw _ _ CI.out
            have U4 := Fact.mk hU4
            have D4 := Fact.mk hd2
            have B4 := Fact.mk hbw
            clear ha hr1 hbw hrd2 hd2 hg2 hf2 hU4 q1 q2 ci
            go_wp2_with fail
            go_quiet (fail)
            have hc5 : (W4.drewN nq).cell? ⟨bi, oi + k, none⟩ = some (.bool false) := hc4
            clear hq1 hq2
            go_wp2_with fail
            go_roundw
            case rel => exact ⟨k + 1, false, by omega, by omega, by go_num, rfl, ⟨⟨⟨_, U4.out.below (below_dn W4 nq)⟩, ⟨_, D4.out.below (below_dn W4 nq)⟩, B4.out.trans ((below_dn W4 nq).mono B4.out.size), HLO.out, HNE.out⟩⟩⟩
            case measure => simp [intOf]; omega
      · obtain rfl : k = 60 := by omega
        have i1 : ((60 : Nat) : Int) < (xs.length : Int) := by omega
        go_wp2_with fail
        refine (awk _).mono ?_
        rintro e W5 ⟨rfl, hb5⟩
        have B5 := Fact.mk (HB.out.trans (hb5.mono HB.out.size))
        clear hb5
        go_wp2_with fail
        go_ret
        exact ⟨rfl, B5.out⟩
    · obtain rfl : k = xs.length := by omega
      go_wp2_with fail
      refine (awk _).mono ?_
      rintro e W5 ⟨rfl, hb5⟩
      have B5 := Fact.mk (HB.out.trans (hb5.mono HB.out.size))
      clear hb5
      go_wp2_with fail
      go_ret
      exact ⟨rfl, B5.out⟩
end Go.Proofs.Ytjanofopmmndoaa

