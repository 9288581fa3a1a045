/- BlocksCount: the walk. -/
import Derived.Test.YtjanofopmmndoaaCountP
import Derived.StillTailTactics
namespace Go.Proofs.Ytjanofopmmndoaa
open Go.RowKit
def fourB (x : Bool × Bool × Bool × Bool) : List Value := [.bool x.1, .bool x.2.1, .bool x.2.2.1, .bool x.2.2.2]
theorem fourB_len (x : Bool × Bool × Bool × Bool) : (fourB x).length = 4 := rfl
theorem one_any (b : Bool) (w : World) : Calls Try.prog 23 #[.bool b] w fun e w' => e = .returned (.int .i64 (truthI b)) ∧ w' = w := by
  cases b
  all_goals
    go_enter Try.func23, Try.ntmps23
    go_wp2
    go_ret
    exact ⟨rfl, rfl⟩
theorem Rd.at4 {w : World} {v : Value} {xs : List (Bool × Bool × Bool × Bool)} (h : Rd fourB 4 w v xs) (i : Nat) (hi : i < xs.length) : ∃ b off c, v = .slice (some ⟨b, off, none⟩) xs.length c ∧ w.cell? ⟨b, off + i * 4, none⟩ = some (.bool xs[i].1) ∧ w.cell? ⟨b, off + i * 4 + 1, none⟩ = some (.bool xs[i].2.1) ∧ w.cell? ⟨b, off + i * 4 + 2, none⟩ = some (.bool xs[i].2.2.1) ∧ w.cell? ⟨b, off + i * 4 + 3, none⟩ = some (.bool xs[i].2.2.2) := by
  obtain ⟨h0, A, c, rfl, h2, h4, h3⟩ := h
  obtain ⟨b, off, rfl, hc⟩ := h3 (by omega)
  exact ⟨b, off, c, rfl, hc i hi 0 _ rfl, hc i hi 1 _ rfl, hc i hi 2 _ rfl, hc i hi 3 _ rfl⟩
theorem Rd.three64 {w : World} {v : Value} {x y z : Int} (h : Rd oneI64 1 w v [x, y, z]) : ∃ b off c, v = .slice (some ⟨b, off, none⟩) 3 c ∧ w.cell? ⟨b, off, none⟩ = some (.int .i64 x) ∧ w.cell? ⟨b, off + 1, none⟩ = some (.int .i64 y) ∧ w.cell? ⟨b, off + 2, none⟩ = some (.int .i64 z) := by
  obtain ⟨b, off, c, e, h0⟩ := h.at64 0 (by simp)
  obtain ⟨_, _, _, e1, h1⟩ := h.at64 1 (by simp)
  obtain ⟨_, _, _, e2, h2⟩ := h.at64 2 (by simp)
  rw [e] at e1 e2
  cases e1
  cases e2
  exact ⟨b, off, c, e, h0, h1, h2⟩
structure CountSt (w wr : World) (V : Nat) (up down : Bool) (want : Int) : Prop where
  blk : ∃ q p, BlkAt wr V (ctB up down want q p)
  bel : Below w.heap.size w wr
  lo : w.heap.size ≤ V
  w1 : -2147483648 ≤ want
  w2 : want ≤ 2147483647
set_option maxRecDepth 100000 in
set_option maxHeartbeats 16000000 in
theorem count_any (awk : ∀ w, Calls Try.prog 20 #[] w fun e w' => e = .returned (.bool true) ∧ Below w.heap.size w w') (xs : List (Bool × Bool × Bool × Bool)) (vs : Value) (pv : Int) (p1 : -2147483648 ≤ pv) (p2 : pv ≤ 2147483647) (w : World) (hr : Rd fourB 4 w vs xs) : Calls Try.prog 5 #[vs, .int .i32 pv] w fun e w' => e = .returned (.bool true) ∧ Below w.heap.size w w' := by
  obtain ⟨A, c, rfl, l0⟩ : ∃ A c, vs = .slice A xs.length c ∧ xs.length ≤ 9223372036854775807 := by
    obtain ⟨h0, A, c, e, _⟩ := hr
    exact ⟨A, c, e, h0⟩
  have HR := Fact.mk hr
  clear hr
  have n6 := new_any 6 (by decide) (by decide)
  unfold vBlk newB at n6
  go_enter Try.func5, Try.ntmps5
  go_wp2_with fail
  refine (n6 _).mono ?_
  rintro e W1 ⟨rfl, hb1⟩
  clear n6
  obtain ⟨t1, t2, t3⟩ := one_block W1 (.cells #[.int .u8 6, .bool false, .bool false, .bool false, .bool false, .int .i64 0, .int .i64 0, .int .i64 0, .bool false, .bool false] 25)
  have ST : Fact (CountSt w (W1.alloc (.cells #[.int .u8 6, .bool false, .bool false, .bool false, .bool false, .int .i64 0, .int .i64 0, .int .i64 0, .bool false, .bool false] 25)) W1.heap.size false false 0) := ⟨⟨⟨false, false, t2⟩, hb1.trans (t1.mono hb1.size), hb1.size, by omega, by omega⟩⟩
  clear hb1 t1 t2 t3
  go_wp2_with fail
  go_loopw [7, 8, 9, 11] (fun sw su sd i wr => ∃ (k : Nat) (want : Int) (up down : Bool), k ≤ xs.length ∧ k ≤ 60 ∧ i = .int .i64 k ∧ sw = .int .i64 want ∧ su = .bool up ∧ sd = .bool down ∧ Fact (CountSt w wr W1.heap.size up down want)) (fun _ _ _ i _ => 60 - (intOf i).toNat)
  case atStart => exact ⟨0, 0, false, false, Nat.zero_le _, Nat.zero_le _, rfl, rfl, rfl, rfl, ST⟩
  case round =>
    obtain ⟨k, want, up, down, hk, hk6, rfl, rfl, rfl, rfl, hst⟩ := hrel
    by_cases hlt : k < xs.length
    · by_cases h60 : k < 60
      · obtain ⟨bi, oi, ci', e, ca, cb, cc, cd⟩ := (HR.out.below hst.out.bel).at4 k hlt
        cases e
        obtain ⟨⟨a, b, c0, d⟩, hx⟩ : ∃ x, xs[k] = x := ⟨_, rfl⟩
        rw [hx] at ca cb cc cd
        have i1 : (k : Int) < (xs.length : Int) := by omega
        have i2 : (k : Int) < 60 := by omega
        have w1 := hst.out.w1
        have w2 := hst.out.w2
        have lV : w.heap.size ≤ W1.heap.size := hst.out.lo
        have lV2 : W1.heap.size < wr.heap.size := by obtain ⟨_, _, h⟩ := hst.out.blk; exact h.lt
        have lI : bi < wr.heap.size := World.block_lt_of_cell? wr _ ca
        have ht : ∀ z : Bool, (truthI z == 1) = z := fun z => by cases z <;> rfl
        have HT := Fact.mk ht
        have ST := hst
        clear hx hst ht
        cases c0 with
        | true =>
          go_wp2_with fail
          go_quiet (fail)
          go_wp2_with fail
          refine still_tail 18 (by kernel_rfl) (by kernel_rfl) (fun W => Below wr.heap.size wr W ∧ W.heap[wr.heap.size]? = some (.cells #[.bool a, .bool b, .bool true, .bool d] 48 (0, 0))) ⟨((Below.refl _ _).alloc (Nat.le_refl _) _).trans ((below_dn _ (nq + 1)).mono (by simp)), heap_alloc_new wr _⟩ ?_
          rintro W ⟨hW, hX⟩
          have HW := Fact.mk hW
          have z0 := cell_of_row W wr.heap.size 0 _ _ _ hX
          have z1 := cell_of_row W wr.heap.size 1 _ _ _ hX
          have z2 := cell_of_row W wr.heap.size 2 _ _ _ hX
          have z3 := cell_of_row W wr.heap.size 3 _ _ _ hX
          clear hW hX
          simp only [List.take_succ_cons, List.take_zero, List.drop_succ_cons, List.drop_zero]
          repeat still_step
          still_call (one_any a W)
          repeat still_step
          still_call (one_any b W)
          repeat still_step
          still_call (one_any true W)
          repeat still_step
          still_call (one_any d W)
          repeat still_step
          refine wpStill_nil ?_
          obtain ⟨q0, p0, hblk⟩ := ST.out.blk
          have hcv : cntC want pv true d (a && !up) (b && !down) = 0 := by rfl
          have hin := cntC_in w1 w2 p1 p2 true d (a && !up) (b && !down)
          rw [hcv] at hin
          have hrun := run_ct (w0 := up) (w1 := down) (q := q0) (p := p0) w1 w2 p1 p2 a b true d
          rw [hcv] at hrun
          have jr := lrun_new (hblk.below HW.out) hrun (outs_ct hin.1 hin.2) (by simp)
          have HIN := Fact.mk hin
          have JR := Fact.mk jr
          clear hblk hcv hin hrun jr z0 z1 z2 z3 ca cb cc cd
          go_wp2_with fail
          refine JR.out.mono ?_
          rintro e W4 ⟨v2, rfl, rd2, k4, g4, -⟩
          obtain ⟨y0, y1, y2, rfl, yc0, yc1, yc2⟩ := rd2.three64
          have bw : Below w.heap.size w W := ST.out.bel.trans (HW.out.mono ST.out.bel.size)
          have ST4 : Fact (CountSt w W4 W1.heap.size a b 0) := ⟨⟨⟨_, _, k4⟩, bw.trans (grown_Below g4 bw.size lV), lV, HIN.out.1, HIN.out.2⟩⟩
          have ht := HT.out
          clear g4 k4 rd2 bw JR
          go_wp2_with fail
          go_roundw
          case rel => exact ⟨k + 1, 0, a, b, by omega, by omega, by go_num, rfl, rfl, rfl, ST4⟩
          case measure => simp [intOf]; omega
        | false =>
          cases d with
          | true =>
            go_wp2_with fail
            go_quiet (fail)
            go_wp2_with fail
            refine still_tail 18 (by kernel_rfl) (by kernel_rfl) (fun W => Below wr.heap.size wr W ∧ W.heap[wr.heap.size]? = some (.cells #[.bool a, .bool b, .bool false, .bool true] 48 (0, 0))) ⟨((Below.refl _ _).alloc (Nat.le_refl _) _).trans ((below_dn _ (nq + 1)).mono (by simp)), heap_alloc_new wr _⟩ ?_
            rintro W ⟨hW, hX⟩
            have HW := Fact.mk hW
            have z0 := cell_of_row W wr.heap.size 0 _ _ _ hX
            have z1 := cell_of_row W wr.heap.size 1 _ _ _ hX
            have z2 := cell_of_row W wr.heap.size 2 _ _ _ hX
            have z3 := cell_of_row W wr.heap.size 3 _ _ _ hX
            clear hW hX
            simp only [List.take_succ_cons, List.take_zero, List.drop_succ_cons, List.drop_zero]
            repeat still_step
            still_call (one_any a W)
            repeat still_step
            still_call (one_any b W)
            repeat still_step
            still_call (one_any false W)
            repeat still_step
            still_call (one_any true W)
            repeat still_step
            refine wpStill_nil ?_
            obtain ⟨q0, p0, hblk⟩ := ST.out.blk
            have hcv : cntC want pv false true (a && !up) (b && !down) = pv := by rfl
            have hin := cntC_in w1 w2 p1 p2 false true (a && !up) (b && !down)
            rw [hcv] at hin
            have hrun := run_ct (w0 := up) (w1 := down) (q := q0) (p := p0) w1 w2 p1 p2 a b false true
            rw [hcv] at hrun
            have jr := lrun_new (hblk.below HW.out) hrun (outs_ct hin.1 hin.2) (by simp)
            have HIN := Fact.mk hin
            have JR := Fact.mk jr
            clear hblk hcv hin hrun jr z0 z1 z2 z3 ca cb cc cd
            go_wp2_with fail
            refine JR.out.mono ?_
            rintro e W4 ⟨v2, rfl, rd2, k4, g4, -⟩
            obtain ⟨y0, y1, y2, rfl, yc0, yc1, yc2⟩ := rd2.three64
            have bw : Below w.heap.size w W := ST.out.bel.trans (HW.out.mono ST.out.bel.size)
            have ST4 : Fact (CountSt w W4 W1.heap.size a b pv) := ⟨⟨⟨_, _, k4⟩, bw.trans (grown_Below g4 bw.size lV), lV, HIN.out.1, HIN.out.2⟩⟩
            have ht := HT.out
            clear g4 k4 rd2 bw JR
            go_wp2_with fail
            go_roundw
            case rel => exact ⟨k + 1, pv, a, b, by omega, by omega, by go_num, rfl, rfl, rfl, ST4⟩
            case measure => simp [intOf]; omega
          | false =>
            cases a with
            | true =>
              cases up with
              | true =>
                cases b with
                | true =>
                  cases down with
                  | true =>
                    go_wp2_with fail
                    go_quiet (fail)
                    go_wp2_with fail
                    refine still_tail 18 (by kernel_rfl) (by kernel_rfl) (fun W => Below wr.heap.size wr W ∧ W.heap[wr.heap.size]? = some (.cells #[.bool true, .bool true, .bool false, .bool false] 48 (0, 0))) ⟨((Below.refl _ _).alloc (Nat.le_refl _) _).trans ((below_dn _ (nq + 1)).mono (by simp)), heap_alloc_new wr _⟩ ?_
                    rintro W ⟨hW, hX⟩
                    have HW := Fact.mk hW
                    have z0 := cell_of_row W wr.heap.size 0 _ _ _ hX
                    have z1 := cell_of_row W wr.heap.size 1 _ _ _ hX
                    have z2 := cell_of_row W wr.heap.size 2 _ _ _ hX
                    have z3 := cell_of_row W wr.heap.size 3 _ _ _ hX
                    clear hW hX
                    simp only [List.take_succ_cons, List.take_zero, List.drop_succ_cons, List.drop_zero]
                    repeat still_step
                    still_call (one_any true W)
                    repeat still_step
                    still_call (one_any true W)
                    repeat still_step
                    still_call (one_any false W)
                    repeat still_step
                    still_call (one_any false W)
                    repeat still_step
                    refine wpStill_nil ?_
                    obtain ⟨q0, p0, hblk⟩ := ST.out.blk
                    have hcv : cntC want pv false false (true && !true) (true && !true) = want := by simp [cntC]
                    have hin := cntC_in w1 w2 p1 p2 false false (true && !true) (true && !true)
                    rw [hcv] at hin
                    have hrun := run_ct (w0 := true) (w1 := true) (q := q0) (p := p0) w1 w2 p1 p2 true true false false
                    rw [hcv] at hrun
                    have jr := lrun_new (hblk.below HW.out) hrun (outs_ct hin.1 hin.2) (by simp)
                    have HIN := Fact.mk hin
                    have JR := Fact.mk jr
                    clear hblk hcv hin hrun jr z0 z1 z2 z3 ca cb cc cd
                    go_wp2_with fail
                    refine JR.out.mono ?_
                    rintro e W4 ⟨v2, rfl, rd2, k4, g4, -⟩
                    obtain ⟨y0, y1, y2, rfl, yc0, yc1, yc2⟩ := rd2.three64
                    have bw : Below w.heap.size w W := ST.out.bel.trans (HW.out.mono ST.out.bel.size)
                    have ST4 : Fact (CountSt w W4 W1.heap.size true true want) := ⟨⟨⟨_, _, k4⟩, bw.trans (grown_Below g4 bw.size lV), lV, HIN.out.1, HIN.out.2⟩⟩
                    have ht := HT.out
                    clear g4 k4 rd2 bw JR
                    go_wp2_with fail
                    go_roundw
                    case rel => exact ⟨k + 1, want, true, true, by omega, by omega, by go_num, rfl, rfl, rfl, ST4⟩
                    case measure => simp [intOf]; omega
                  | false =>
                    by_cases hm : -2147483648 < want
                    · go_wp2_with fail
                      go_quiet (fail)
                      go_wp2_with fail
                      refine still_tail 18 (by kernel_rfl) (by kernel_rfl) (fun W => Below wr.heap.size wr W ∧ W.heap[wr.heap.size]? = some (.cells #[.bool true, .bool true, .bool false, .bool false] 48 (0, 0))) ⟨((Below.refl _ _).alloc (Nat.le_refl _) _).trans ((below_dn _ (nq + 1)).mono (by simp)), heap_alloc_new wr _⟩ ?_
                      rintro W ⟨hW, hX⟩
                      have HW := Fact.mk hW
                      have z0 := cell_of_row W wr.heap.size 0 _ _ _ hX
                      have z1 := cell_of_row W wr.heap.size 1 _ _ _ hX
                      have z2 := cell_of_row W wr.heap.size 2 _ _ _ hX
                      have z3 := cell_of_row W wr.heap.size 3 _ _ _ hX
                      clear hW hX
                      simp only [List.take_succ_cons, List.take_zero, List.drop_succ_cons, List.drop_zero]
                      repeat still_step
                      still_call (one_any true W)
                      repeat still_step
                      still_call (one_any true W)
                      repeat still_step
                      still_call (one_any false W)
                      repeat still_step
                      still_call (one_any false W)
                      repeat still_step
                      refine wpStill_nil ?_
                      obtain ⟨q0, p0, hblk⟩ := ST.out.blk
                      have hcv : cntC want pv false false (true && !true) (true && !false) = (want - 1) := by simp [cntC, stepC]; omega
                      have hin := cntC_in w1 w2 p1 p2 false false (true && !true) (true && !false)
                      rw [hcv] at hin
                      have hrun := run_ct (w0 := true) (w1 := false) (q := q0) (p := p0) w1 w2 p1 p2 true true false false
                      rw [hcv] at hrun
                      have jr := lrun_new (hblk.below HW.out) hrun (outs_ct hin.1 hin.2) (by simp)
                      have HIN := Fact.mk hin
                      have JR := Fact.mk jr
                      clear hblk hcv hin hrun jr z0 z1 z2 z3 ca cb cc cd
                      go_wp2_with fail
                      refine JR.out.mono ?_
                      rintro e W4 ⟨v2, rfl, rd2, k4, g4, -⟩
                      obtain ⟨y0, y1, y2, rfl, yc0, yc1, yc2⟩ := rd2.three64
                      have bw : Below w.heap.size w W := ST.out.bel.trans (HW.out.mono ST.out.bel.size)
                      have ST4 : Fact (CountSt w W4 W1.heap.size true true (want - 1)) := ⟨⟨⟨_, _, k4⟩, bw.trans (grown_Below g4 bw.size lV), lV, HIN.out.1, HIN.out.2⟩⟩
                      have ht := HT.out
                      clear g4 k4 rd2 bw JR
                      go_wp2_with fail
                      go_roundw
                      case rel => exact ⟨k + 1, (want - 1), true, true, by omega, by omega, by go_num, rfl, rfl, rfl, ST4⟩
                      case measure => simp [intOf]; omega
                    · have hwm : want = -2147483648 := by omega
                      subst hwm
                      go_wp2_with fail
                      go_quiet (fail)
                      go_wp2_with fail
                      refine still_tail 18 (by kernel_rfl) (by kernel_rfl) (fun W => Below wr.heap.size wr W ∧ W.heap[wr.heap.size]? = some (.cells #[.bool true, .bool true, .bool false, .bool false] 48 (0, 0))) ⟨((Below.refl _ _).alloc (Nat.le_refl _) _).trans ((below_dn _ (nq + 1)).mono (by simp)), heap_alloc_new wr _⟩ ?_
                      rintro W ⟨hW, hX⟩
                      have HW := Fact.mk hW
                      have z0 := cell_of_row W wr.heap.size 0 _ _ _ hX
                      have z1 := cell_of_row W wr.heap.size 1 _ _ _ hX
                      have z2 := cell_of_row W wr.heap.size 2 _ _ _ hX
                      have z3 := cell_of_row W wr.heap.size 3 _ _ _ hX
                      clear hW hX
                      simp only [List.take_succ_cons, List.take_zero, List.drop_succ_cons, List.drop_zero]
                      repeat still_step
                      still_call (one_any true W)
                      repeat still_step
                      still_call (one_any true W)
                      repeat still_step
                      still_call (one_any false W)
                      repeat still_step
                      still_call (one_any false W)
                      repeat still_step
                      refine wpStill_nil ?_
                      obtain ⟨q0, p0, hblk⟩ := ST.out.blk
                      have hcv : cntC (-2147483648) pv false false (true && !true) (true && !false) = (-2147483648) := by simp [cntC, stepC]; omega
                      have hin := cntC_in w1 w2 p1 p2 false false (true && !true) (true && !false)
                      rw [hcv] at hin
                      have hrun := run_ct (w0 := true) (w1 := false) (q := q0) (p := p0) w1 w2 p1 p2 true true false false
                      rw [hcv] at hrun
                      have jr := lrun_new (hblk.below HW.out) hrun (outs_ct hin.1 hin.2) (by simp)
                      have HIN := Fact.mk hin
                      have JR := Fact.mk jr
                      clear hblk hcv hin hrun jr z0 z1 z2 z3 ca cb cc cd
                      go_wp2_with fail
                      refine JR.out.mono ?_
                      rintro e W4 ⟨v2, rfl, rd2, k4, g4, -⟩
                      obtain ⟨y0, y1, y2, rfl, yc0, yc1, yc2⟩ := rd2.three64
                      have bw : Below w.heap.size w W := ST.out.bel.trans (HW.out.mono ST.out.bel.size)
                      have ST4 : Fact (CountSt w W4 W1.heap.size true true (-2147483648)) := ⟨⟨⟨_, _, k4⟩, bw.trans (grown_Below g4 bw.size lV), lV, HIN.out.1, HIN.out.2⟩⟩
                      have ht := HT.out
                      clear g4 k4 rd2 bw JR
                      go_wp2_with fail
                      go_roundw
                      case rel => exact ⟨k + 1, (-2147483648), true, true, by omega, by omega, by go_num, rfl, rfl, rfl, ST4⟩
                      case measure => simp [intOf]; omega
                | false =>
                  go_wp2_with fail
                  go_quiet (fail)
                  go_wp2_with fail
                  refine still_tail 18 (by kernel_rfl) (by kernel_rfl) (fun W => Below wr.heap.size wr W ∧ W.heap[wr.heap.size]? = some (.cells #[.bool true, .bool false, .bool false, .bool false] 48 (0, 0))) ⟨((Below.refl _ _).alloc (Nat.le_refl _) _).trans ((below_dn _ (nq + 1)).mono (by simp)), heap_alloc_new wr _⟩ ?_
                  rintro W ⟨hW, hX⟩
                  have HW := Fact.mk hW
                  have z0 := cell_of_row W wr.heap.size 0 _ _ _ hX
                  have z1 := cell_of_row W wr.heap.size 1 _ _ _ hX
                  have z2 := cell_of_row W wr.heap.size 2 _ _ _ hX
                  have z3 := cell_of_row W wr.heap.size 3 _ _ _ hX
                  clear hW hX
                  simp only [List.take_succ_cons, List.take_zero, List.drop_succ_cons, List.drop_zero]
                  repeat still_step
                  still_call (one_any true W)
                  repeat still_step
                  still_call (one_any false W)
                  repeat still_step
                  still_call (one_any false W)
                  repeat still_step
                  still_call (one_any false W)
                  repeat still_step
                  refine wpStill_nil ?_
                  obtain ⟨q0, p0, hblk⟩ := ST.out.blk
                  have hcv : cntC want pv false false (true && !true) (false && !down) = want := by simp [cntC]
                  have hin := cntC_in w1 w2 p1 p2 false false (true && !true) (false && !down)
                  rw [hcv] at hin
                  have hrun := run_ct (w0 := true) (w1 := down) (q := q0) (p := p0) w1 w2 p1 p2 true false false false
                  rw [hcv] at hrun
                  have jr := lrun_new (hblk.below HW.out) hrun (outs_ct hin.1 hin.2) (by simp)
                  have HIN := Fact.mk hin
                  have JR := Fact.mk jr
                  clear hblk hcv hin hrun jr z0 z1 z2 z3 ca cb cc cd
                  go_wp2_with fail
                  refine JR.out.mono ?_
                  rintro e W4 ⟨v2, rfl, rd2, k4, g4, -⟩
                  obtain ⟨y0, y1, y2, rfl, yc0, yc1, yc2⟩ := rd2.three64
                  have bw : Below w.heap.size w W := ST.out.bel.trans (HW.out.mono ST.out.bel.size)
                  have ST4 : Fact (CountSt w W4 W1.heap.size true false want) := ⟨⟨⟨_, _, k4⟩, bw.trans (grown_Below g4 bw.size lV), lV, HIN.out.1, HIN.out.2⟩⟩
                  have ht := HT.out
                  clear g4 k4 rd2 bw JR
                  go_wp2_with fail
                  go_roundw
                  case rel => exact ⟨k + 1, want, true, false, by omega, by omega, by go_num, rfl, rfl, rfl, ST4⟩
                  case measure => simp [intOf]; omega
              | false =>
                cases b with
                | true =>
                  cases down with
                  | true =>
                    by_cases hm : want < 2147483647
                    · go_wp2_with fail
                      go_quiet (fail)
                      go_wp2_with fail
                      refine still_tail 18 (by kernel_rfl) (by kernel_rfl) (fun W => Below wr.heap.size wr W ∧ W.heap[wr.heap.size]? = some (.cells #[.bool true, .bool true, .bool false, .bool false] 48 (0, 0))) ⟨((Below.refl _ _).alloc (Nat.le_refl _) _).trans ((below_dn _ (nq + 1)).mono (by simp)), heap_alloc_new wr _⟩ ?_
                      rintro W ⟨hW, hX⟩
                      have HW := Fact.mk hW
                      have z0 := cell_of_row W wr.heap.size 0 _ _ _ hX
                      have z1 := cell_of_row W wr.heap.size 1 _ _ _ hX
                      have z2 := cell_of_row W wr.heap.size 2 _ _ _ hX
                      have z3 := cell_of_row W wr.heap.size 3 _ _ _ hX
                      clear hW hX
                      simp only [List.take_succ_cons, List.take_zero, List.drop_succ_cons, List.drop_zero]
                      repeat still_step
                      still_call (one_any true W)
                      repeat still_step
                      still_call (one_any true W)
                      repeat still_step
                      still_call (one_any false W)
                      repeat still_step
                      still_call (one_any false W)
                      repeat still_step
                      refine wpStill_nil ?_
                      obtain ⟨q0, p0, hblk⟩ := ST.out.blk
                      have hcv : cntC want pv false false (true && !false) (true && !true) = (want + 1) := by simp [cntC, stepC]; omega
                      have hin := cntC_in w1 w2 p1 p2 false false (true && !false) (true && !true)
                      rw [hcv] at hin
                      have hrun := run_ct (w0 := false) (w1 := true) (q := q0) (p := p0) w1 w2 p1 p2 true true false false
                      rw [hcv] at hrun
                      have jr := lrun_new (hblk.below HW.out) hrun (outs_ct hin.1 hin.2) (by simp)
                      have HIN := Fact.mk hin
                      have JR := Fact.mk jr
                      clear hblk hcv hin hrun jr z0 z1 z2 z3 ca cb cc cd
                      go_wp2_with fail
                      refine JR.out.mono ?_
                      rintro e W4 ⟨v2, rfl, rd2, k4, g4, -⟩
                      obtain ⟨y0, y1, y2, rfl, yc0, yc1, yc2⟩ := rd2.three64
                      have bw : Below w.heap.size w W := ST.out.bel.trans (HW.out.mono ST.out.bel.size)
                      have ST4 : Fact (CountSt w W4 W1.heap.size true true (want + 1)) := ⟨⟨⟨_, _, k4⟩, bw.trans (grown_Below g4 bw.size lV), lV, HIN.out.1, HIN.out.2⟩⟩
                      have ht := HT.out
                      clear g4 k4 rd2 bw JR
                      go_wp2_with fail
                      go_roundw
                      case rel => exact ⟨k + 1, (want + 1), true, true, by omega, by omega, by go_num, rfl, rfl, rfl, ST4⟩
                      case measure => simp [intOf]; omega
                    · have hwm : want = 2147483647 := by omega
                      subst hwm
                      go_wp2_with fail
                      go_quiet (fail)
                      go_wp2_with fail
                      refine still_tail 18 (by kernel_rfl) (by kernel_rfl) (fun W => Below wr.heap.size wr W ∧ W.heap[wr.heap.size]? = some (.cells #[.bool true, .bool true, .bool false, .bool false] 48 (0, 0))) ⟨((Below.refl _ _).alloc (Nat.le_refl _) _).trans ((below_dn _ (nq + 1)).mono (by simp)), heap_alloc_new wr _⟩ ?_
                      rintro W ⟨hW, hX⟩
                      have HW := Fact.mk hW
                      have z0 := cell_of_row W wr.heap.size 0 _ _ _ hX
                      have z1 := cell_of_row W wr.heap.size 1 _ _ _ hX
                      have z2 := cell_of_row W wr.heap.size 2 _ _ _ hX
                      have z3 := cell_of_row W wr.heap.size 3 _ _ _ hX
                      clear hW hX
                      simp only [List.take_succ_cons, List.take_zero, List.drop_succ_cons, List.drop_zero]
                      repeat still_step
                      still_call (one_any true W)
                      repeat still_step
                      still_call (one_any true W)
                      repeat still_step
                      still_call (one_any false W)
                      repeat still_step
                      still_call (one_any false W)
                      repeat still_step
                      refine wpStill_nil ?_
                      obtain ⟨q0, p0, hblk⟩ := ST.out.blk
                      have hcv : cntC 2147483647 pv false false (true && !false) (true && !true) = 2147483647 := by simp [cntC, stepC]; omega
                      have hin := cntC_in w1 w2 p1 p2 false false (true && !false) (true && !true)
                      rw [hcv] at hin
                      have hrun := run_ct (w0 := false) (w1 := true) (q := q0) (p := p0) w1 w2 p1 p2 true true false false
                      rw [hcv] at hrun
                      have jr := lrun_new (hblk.below HW.out) hrun (outs_ct hin.1 hin.2) (by simp)
                      have HIN := Fact.mk hin
                      have JR := Fact.mk jr
                      clear hblk hcv hin hrun jr z0 z1 z2 z3 ca cb cc cd
                      go_wp2_with fail
                      refine JR.out.mono ?_
                      rintro e W4 ⟨v2, rfl, rd2, k4, g4, -⟩
                      obtain ⟨y0, y1, y2, rfl, yc0, yc1, yc2⟩ := rd2.three64
                      have bw : Below w.heap.size w W := ST.out.bel.trans (HW.out.mono ST.out.bel.size)
                      have ST4 : Fact (CountSt w W4 W1.heap.size true true 2147483647) := ⟨⟨⟨_, _, k4⟩, bw.trans (grown_Below g4 bw.size lV), lV, HIN.out.1, HIN.out.2⟩⟩
                      have ht := HT.out
                      clear g4 k4 rd2 bw JR
                      go_wp2_with fail
                      go_roundw
                      case rel => exact ⟨k + 1, 2147483647, true, true, by omega, by omega, by go_num, rfl, rfl, rfl, ST4⟩
                      case measure => simp [intOf]; omega
                  | false =>
                    go_wp2_with fail
                    go_quiet (fail)
                    go_wp2_with fail
                    refine still_tail 18 (by kernel_rfl) (by kernel_rfl) (fun W => Below wr.heap.size wr W ∧ W.heap[wr.heap.size]? = some (.cells #[.bool true, .bool true, .bool false, .bool false] 48 (0, 0))) ⟨((Below.refl _ _).alloc (Nat.le_refl _) _).trans ((below_dn _ (nq + 1)).mono (by simp)), heap_alloc_new wr _⟩ ?_
                    rintro W ⟨hW, hX⟩
                    have HW := Fact.mk hW
                    have z0 := cell_of_row W wr.heap.size 0 _ _ _ hX
                    have z1 := cell_of_row W wr.heap.size 1 _ _ _ hX
                    have z2 := cell_of_row W wr.heap.size 2 _ _ _ hX
                    have z3 := cell_of_row W wr.heap.size 3 _ _ _ hX
                    clear hW hX
                    simp only [List.take_succ_cons, List.take_zero, List.drop_succ_cons, List.drop_zero]
                    repeat still_step
                    still_call (one_any true W)
                    repeat still_step
                    still_call (one_any true W)
                    repeat still_step
                    still_call (one_any false W)
                    repeat still_step
                    still_call (one_any false W)
                    repeat still_step
                    refine wpStill_nil ?_
                    obtain ⟨q0, p0, hblk⟩ := ST.out.blk
                    have hcv : cntC want pv false false (true && !false) (true && !false) = want := by simp [cntC]
                    have hin := cntC_in w1 w2 p1 p2 false false (true && !false) (true && !false)
                    rw [hcv] at hin
                    have hrun := run_ct (w0 := false) (w1 := false) (q := q0) (p := p0) w1 w2 p1 p2 true true false false
                    rw [hcv] at hrun
                    have jr := lrun_new (hblk.below HW.out) hrun (outs_ct hin.1 hin.2) (by simp)
                    have HIN := Fact.mk hin
                    have JR := Fact.mk jr
                    clear hblk hcv hin hrun jr z0 z1 z2 z3 ca cb cc cd
                    go_wp2_with fail
                    refine JR.out.mono ?_
                    rintro e W4 ⟨v2, rfl, rd2, k4, g4, -⟩
                    obtain ⟨y0, y1, y2, rfl, yc0, yc1, yc2⟩ := rd2.three64
                    have bw : Below w.heap.size w W := ST.out.bel.trans (HW.out.mono ST.out.bel.size)
                    have ST4 : Fact (CountSt w W4 W1.heap.size true true want) := ⟨⟨⟨_, _, k4⟩, bw.trans (grown_Below g4 bw.size lV), lV, HIN.out.1, HIN.out.2⟩⟩
                    have ht := HT.out
                    clear g4 k4 rd2 bw JR
                    go_wp2_with fail
                    go_roundw
                    case rel => exact ⟨k + 1, want, true, true, by omega, by omega, by go_num, rfl, rfl, rfl, ST4⟩
                    case measure => simp [intOf]; omega
                | false =>
                  by_cases hm : want < 2147483647
                  · go_wp2_with fail
                    go_quiet (fail)
                    go_wp2_with fail
                    refine still_tail 18 (by kernel_rfl) (by kernel_rfl) (fun W => Below wr.heap.size wr W ∧ W.heap[wr.heap.size]? = some (.cells #[.bool true, .bool false, .bool false, .bool false] 48 (0, 0))) ⟨((Below.refl _ _).alloc (Nat.le_refl _) _).trans ((below_dn _ (nq + 1)).mono (by simp)), heap_alloc_new wr _⟩ ?_
                    rintro W ⟨hW, hX⟩
                    have HW := Fact.mk hW
                    have z0 := cell_of_row W wr.heap.size 0 _ _ _ hX
                    have z1 := cell_of_row W wr.heap.size 1 _ _ _ hX
                    have z2 := cell_of_row W wr.heap.size 2 _ _ _ hX
                    have z3 := cell_of_row W wr.heap.size 3 _ _ _ hX
                    clear hW hX
                    simp only [List.take_succ_cons, List.take_zero, List.drop_succ_cons, List.drop_zero]
                    repeat still_step
                    still_call (one_any true W)
                    repeat still_step
                    still_call (one_any false W)
                    repeat still_step
                    still_call (one_any false W)
                    repeat still_step
                    still_call (one_any false W)
                    repeat still_step
                    refine wpStill_nil ?_
                    obtain ⟨q0, p0, hblk⟩ := ST.out.blk
                    have hcv : cntC want pv false false (true && !false) (false && !down) = (want + 1) := by simp [cntC, stepC]; omega
                    have hin := cntC_in w1 w2 p1 p2 false false (true && !false) (false && !down)
                    rw [hcv] at hin
                    have hrun := run_ct (w0 := false) (w1 := down) (q := q0) (p := p0) w1 w2 p1 p2 true false false false
                    rw [hcv] at hrun
                    have jr := lrun_new (hblk.below HW.out) hrun (outs_ct hin.1 hin.2) (by simp)
                    have HIN := Fact.mk hin
                    have JR := Fact.mk jr
                    clear hblk hcv hin hrun jr z0 z1 z2 z3 ca cb cc cd
                    go_wp2_with fail
                    refine JR.out.mono ?_
                    rintro e W4 ⟨v2, rfl, rd2, k4, g4, -⟩
                    obtain ⟨y0, y1, y2, rfl, yc0, yc1, yc2⟩ := rd2.three64
                    have bw : Below w.heap.size w W := ST.out.bel.trans (HW.out.mono ST.out.bel.size)
                    have ST4 : Fact (CountSt w W4 W1.heap.size true false (want + 1)) := ⟨⟨⟨_, _, k4⟩, bw.trans (grown_Below g4 bw.size lV), lV, HIN.out.1, HIN.out.2⟩⟩
                    have ht := HT.out
                    clear g4 k4 rd2 bw JR
                    go_wp2_with fail
                    go_roundw
                    case rel => exact ⟨k + 1, (want + 1), true, false, by omega, by omega, by go_num, rfl, rfl, rfl, ST4⟩
                    case measure => simp [intOf]; omega
                  · have hwm : want = 2147483647 := by omega
                    subst hwm
                    go_wp2_with fail
                    go_quiet (fail)
                    go_wp2_with fail
                    refine still_tail 18 (by kernel_rfl) (by kernel_rfl) (fun W => Below wr.heap.size wr W ∧ W.heap[wr.heap.size]? = some (.cells #[.bool true, .bool false, .bool false, .bool false] 48 (0, 0))) ⟨((Below.refl _ _).alloc (Nat.le_refl _) _).trans ((below_dn _ (nq + 1)).mono (by simp)), heap_alloc_new wr _⟩ ?_
                    rintro W ⟨hW, hX⟩
                    have HW := Fact.mk hW
                    have z0 := cell_of_row W wr.heap.size 0 _ _ _ hX
                    have z1 := cell_of_row W wr.heap.size 1 _ _ _ hX
                    have z2 := cell_of_row W wr.heap.size 2 _ _ _ hX
                    have z3 := cell_of_row W wr.heap.size 3 _ _ _ hX
                    clear hW hX
                    simp only [List.take_succ_cons, List.take_zero, List.drop_succ_cons, List.drop_zero]
                    repeat still_step
                    still_call (one_any true W)
                    repeat still_step
                    still_call (one_any false W)
                    repeat still_step
                    still_call (one_any false W)
                    repeat still_step
                    still_call (one_any false W)
                    repeat still_step
                    refine wpStill_nil ?_
                    obtain ⟨q0, p0, hblk⟩ := ST.out.blk
                    have hcv : cntC 2147483647 pv false false (true && !false) (false && !down) = 2147483647 := by simp [cntC, stepC]; omega
                    have hin := cntC_in w1 w2 p1 p2 false false (true && !false) (false && !down)
                    rw [hcv] at hin
                    have hrun := run_ct (w0 := false) (w1 := down) (q := q0) (p := p0) w1 w2 p1 p2 true false false false
                    rw [hcv] at hrun
                    have jr := lrun_new (hblk.below HW.out) hrun (outs_ct hin.1 hin.2) (by simp)
                    have HIN := Fact.mk hin
                    have JR := Fact.mk jr
                    clear hblk hcv hin hrun jr z0 z1 z2 z3 ca cb cc cd
                    go_wp2_with fail
                    refine JR.out.mono ?_
                    rintro e W4 ⟨v2, rfl, rd2, k4, g4, -⟩
                    obtain ⟨y0, y1, y2, rfl, yc0, yc1, yc2⟩ := rd2.three64
                    have bw : Below w.heap.size w W := ST.out.bel.trans (HW.out.mono ST.out.bel.size)
                    have ST4 : Fact (CountSt w W4 W1.heap.size true false 2147483647) := ⟨⟨⟨_, _, k4⟩, bw.trans (grown_Below g4 bw.size lV), lV, HIN.out.1, HIN.out.2⟩⟩
                    have ht := HT.out
                    clear g4 k4 rd2 bw JR
                    go_wp2_with fail
                    go_roundw
                    case rel => exact ⟨k + 1, 2147483647, true, false, by omega, by omega, by go_num, rfl, rfl, rfl, ST4⟩
                    case measure => simp [intOf]; omega
            | false =>
              cases b with
              | true =>
                cases down with
                | true =>
                  go_wp2_with fail
                  go_quiet (fail)
                  go_wp2_with fail
                  refine still_tail 18 (by kernel_rfl) (by kernel_rfl) (fun W => Below wr.heap.size wr W ∧ W.heap[wr.heap.size]? = some (.cells #[.bool false, .bool true, .bool false, .bool false] 48 (0, 0))) ⟨((Below.refl _ _).alloc (Nat.le_refl _) _).trans ((below_dn _ (nq + 1)).mono (by simp)), heap_alloc_new wr _⟩ ?_
                  rintro W ⟨hW, hX⟩
                  have HW := Fact.mk hW
                  have z0 := cell_of_row W wr.heap.size 0 _ _ _ hX
                  have z1 := cell_of_row W wr.heap.size 1 _ _ _ hX
                  have z2 := cell_of_row W wr.heap.size 2 _ _ _ hX
                  have z3 := cell_of_row W wr.heap.size 3 _ _ _ hX
                  clear hW hX
                  simp only [List.take_succ_cons, List.take_zero, List.drop_succ_cons, List.drop_zero]
                  repeat still_step
                  still_call (one_any false W)
                  repeat still_step
                  still_call (one_any true W)
                  repeat still_step
                  still_call (one_any false W)
                  repeat still_step
                  still_call (one_any false W)
                  repeat still_step
                  refine wpStill_nil ?_
                  obtain ⟨q0, p0, hblk⟩ := ST.out.blk
                  have hcv : cntC want pv false false (false && !up) (true && !true) = want := by simp [cntC]
                  have hin := cntC_in w1 w2 p1 p2 false false (false && !up) (true && !true)
                  rw [hcv] at hin
                  have hrun := run_ct (w0 := up) (w1 := true) (q := q0) (p := p0) w1 w2 p1 p2 false true false false
                  rw [hcv] at hrun
                  have jr := lrun_new (hblk.below HW.out) hrun (outs_ct hin.1 hin.2) (by simp)
                  have HIN := Fact.mk hin
                  have JR := Fact.mk jr
                  clear hblk hcv hin hrun jr z0 z1 z2 z3 ca cb cc cd
                  go_wp2_with fail
                  refine JR.out.mono ?_
                  rintro e W4 ⟨v2, rfl, rd2, k4, g4, -⟩
                  obtain ⟨y0, y1, y2, rfl, yc0, yc1, yc2⟩ := rd2.three64
                  have bw : Below w.heap.size w W := ST.out.bel.trans (HW.out.mono ST.out.bel.size)
                  have ST4 : Fact (CountSt w W4 W1.heap.size false true want) := ⟨⟨⟨_, _, k4⟩, bw.trans (grown_Below g4 bw.size lV), lV, HIN.out.1, HIN.out.2⟩⟩
                  have ht := HT.out
                  clear g4 k4 rd2 bw JR
                  go_wp2_with fail
                  go_roundw
                  case rel => exact ⟨k + 1, want, false, true, by omega, by omega, by go_num, rfl, rfl, rfl, ST4⟩
                  case measure => simp [intOf]; omega
                | false =>
                  by_cases hm : -2147483648 < want
                  · go_wp2_with fail
                    go_quiet (fail)
                    go_wp2_with fail
                    refine still_tail 18 (by kernel_rfl) (by kernel_rfl) (fun W => Below wr.heap.size wr W ∧ W.heap[wr.heap.size]? = some (.cells #[.bool false, .bool true, .bool false, .bool false] 48 (0, 0))) ⟨((Below.refl _ _).alloc (Nat.le_refl _) _).trans ((below_dn _ (nq + 1)).mono (by simp)), heap_alloc_new wr _⟩ ?_
                    rintro W ⟨hW, hX⟩
                    have HW := Fact.mk hW
                    have z0 := cell_of_row W wr.heap.size 0 _ _ _ hX
                    have z1 := cell_of_row W wr.heap.size 1 _ _ _ hX
                    have z2 := cell_of_row W wr.heap.size 2 _ _ _ hX
                    have z3 := cell_of_row W wr.heap.size 3 _ _ _ hX
                    clear hW hX
                    simp only [List.take_succ_cons, List.take_zero, List.drop_succ_cons, List.drop_zero]
                    repeat still_step
                    still_call (one_any false W)
                    repeat still_step
                    still_call (one_any true W)
                    repeat still_step
                    still_call (one_any false W)
                    repeat still_step
                    still_call (one_any false W)
                    repeat still_step
                    refine wpStill_nil ?_
                    obtain ⟨q0, p0, hblk⟩ := ST.out.blk
                    have hcv : cntC want pv false false (false && !up) (true && !false) = (want - 1) := by simp [cntC, stepC]; omega
                    have hin := cntC_in w1 w2 p1 p2 false false (false && !up) (true && !false)
                    rw [hcv] at hin
                    have hrun := run_ct (w0 := up) (w1 := false) (q := q0) (p := p0) w1 w2 p1 p2 false true false false
                    rw [hcv] at hrun
                    have jr := lrun_new (hblk.below HW.out) hrun (outs_ct hin.1 hin.2) (by simp)
                    have HIN := Fact.mk hin
                    have JR := Fact.mk jr
                    clear hblk hcv hin hrun jr z0 z1 z2 z3 ca cb cc cd
                    go_wp2_with fail
                    refine JR.out.mono ?_
                    rintro e W4 ⟨v2, rfl, rd2, k4, g4, -⟩
                    obtain ⟨y0, y1, y2, rfl, yc0, yc1, yc2⟩ := rd2.three64
                    have bw : Below w.heap.size w W := ST.out.bel.trans (HW.out.mono ST.out.bel.size)
                    have ST4 : Fact (CountSt w W4 W1.heap.size false true (want - 1)) := ⟨⟨⟨_, _, k4⟩, bw.trans (grown_Below g4 bw.size lV), lV, HIN.out.1, HIN.out.2⟩⟩
                    have ht := HT.out
                    clear g4 k4 rd2 bw JR
                    go_wp2_with fail
                    go_roundw
                    case rel => exact ⟨k + 1, (want - 1), false, true, by omega, by omega, by go_num, rfl, rfl, rfl, ST4⟩
                    case measure => simp [intOf]; omega
                  · have hwm : want = -2147483648 := by omega
                    subst hwm
                    go_wp2_with fail
                    go_quiet (fail)
                    go_wp2_with fail
                    refine still_tail 18 (by kernel_rfl) (by kernel_rfl) (fun W => Below wr.heap.size wr W ∧ W.heap[wr.heap.size]? = some (.cells #[.bool false, .bool true, .bool false, .bool false] 48 (0, 0))) ⟨((Below.refl _ _).alloc (Nat.le_refl _) _).trans ((below_dn _ (nq + 1)).mono (by simp)), heap_alloc_new wr _⟩ ?_
                    rintro W ⟨hW, hX⟩
                    have HW := Fact.mk hW
                    have z0 := cell_of_row W wr.heap.size 0 _ _ _ hX
                    have z1 := cell_of_row W wr.heap.size 1 _ _ _ hX
                    have z2 := cell_of_row W wr.heap.size 2 _ _ _ hX
                    have z3 := cell_of_row W wr.heap.size 3 _ _ _ hX
                    clear hW hX
                    simp only [List.take_succ_cons, List.take_zero, List.drop_succ_cons, List.drop_zero]
                    repeat still_step
                    still_call (one_any false W)
                    repeat still_step
                    still_call (one_any true W)
                    repeat still_step
                    still_call (one_any false W)
                    repeat still_step
                    still_call (one_any false W)
                    repeat still_step
                    refine wpStill_nil ?_
                    obtain ⟨q0, p0, hblk⟩ := ST.out.blk
                    have hcv : cntC (-2147483648) pv false false (false && !up) (true && !false) = (-2147483648) := by simp [cntC, stepC]; omega
                    have hin := cntC_in w1 w2 p1 p2 false false (false && !up) (true && !false)
                    rw [hcv] at hin
                    have hrun := run_ct (w0 := up) (w1 := false) (q := q0) (p := p0) w1 w2 p1 p2 false true false false
                    rw [hcv] at hrun
                    have jr := lrun_new (hblk.below HW.out) hrun (outs_ct hin.1 hin.2) (by simp)
                    have HIN := Fact.mk hin
                    have JR := Fact.mk jr
                    clear hblk hcv hin hrun jr z0 z1 z2 z3 ca cb cc cd
                    go_wp2_with fail
                    refine JR.out.mono ?_
                    rintro e W4 ⟨v2, rfl, rd2, k4, g4, -⟩
                    obtain ⟨y0, y1, y2, rfl, yc0, yc1, yc2⟩ := rd2.three64
                    have bw : Below w.heap.size w W := ST.out.bel.trans (HW.out.mono ST.out.bel.size)
                    have ST4 : Fact (CountSt w W4 W1.heap.size false true (-2147483648)) := ⟨⟨⟨_, _, k4⟩, bw.trans (grown_Below g4 bw.size lV), lV, HIN.out.1, HIN.out.2⟩⟩
                    have ht := HT.out
                    clear g4 k4 rd2 bw JR
                    go_wp2_with fail
                    go_roundw
                    case rel => exact ⟨k + 1, (-2147483648), false, true, by omega, by omega, by go_num, rfl, rfl, rfl, ST4⟩
                    case measure => simp [intOf]; omega
              | false =>
                go_wp2_with fail
                go_quiet (fail)
                go_wp2_with fail
                refine still_tail 18 (by kernel_rfl) (by kernel_rfl) (fun W => Below wr.heap.size wr W ∧ W.heap[wr.heap.size]? = some (.cells #[.bool false, .bool false, .bool false, .bool false] 48 (0, 0))) ⟨((Below.refl _ _).alloc (Nat.le_refl _) _).trans ((below_dn _ (nq + 1)).mono (by simp)), heap_alloc_new wr _⟩ ?_
                rintro W ⟨hW, hX⟩
                have HW := Fact.mk hW
                have z0 := cell_of_row W wr.heap.size 0 _ _ _ hX
                have z1 := cell_of_row W wr.heap.size 1 _ _ _ hX
                have z2 := cell_of_row W wr.heap.size 2 _ _ _ hX
                have z3 := cell_of_row W wr.heap.size 3 _ _ _ hX
                clear hW hX
                simp only [List.take_succ_cons, List.take_zero, List.drop_succ_cons, List.drop_zero]
                repeat still_step
                still_call (one_any false W)
                repeat still_step
                still_call (one_any false W)
                repeat still_step
                still_call (one_any false W)
                repeat still_step
                still_call (one_any false W)
                repeat still_step
                refine wpStill_nil ?_
                obtain ⟨q0, p0, hblk⟩ := ST.out.blk
                have hcv : cntC want pv false false (false && !up) (false && !down) = want := by simp [cntC]
                have hin := cntC_in w1 w2 p1 p2 false false (false && !up) (false && !down)
                rw [hcv] at hin
                have hrun := run_ct (w0 := up) (w1 := down) (q := q0) (p := p0) w1 w2 p1 p2 false false false false
                rw [hcv] at hrun
                have jr := lrun_new (hblk.below HW.out) hrun (outs_ct hin.1 hin.2) (by simp)
                have HIN := Fact.mk hin
                have JR := Fact.mk jr
                clear hblk hcv hin hrun jr z0 z1 z2 z3 ca cb cc cd
                go_wp2_with fail
                refine JR.out.mono ?_
                rintro e W4 ⟨v2, rfl, rd2, k4, g4, -⟩
                obtain ⟨y0, y1, y2, rfl, yc0, yc1, yc2⟩ := rd2.three64
                have bw : Below w.heap.size w W := ST.out.bel.trans (HW.out.mono ST.out.bel.size)
                have ST4 : Fact (CountSt w W4 W1.heap.size false false want) := ⟨⟨⟨_, _, k4⟩, bw.trans (grown_Below g4 bw.size lV), lV, HIN.out.1, HIN.out.2⟩⟩
                have ht := HT.out
                clear g4 k4 rd2 bw JR
                go_wp2_with fail
                go_roundw
                case rel => exact ⟨k + 1, want, false, false, by omega, by omega, by go_num, rfl, rfl, rfl, ST4⟩
                case measure => simp [intOf]; omega
      · obtain rfl : k = 60 := by omega
        have i1 : ((60 : Nat) : Int) < (xs.length : Int) := by omega
        have HB := Fact.mk hst.out.bel
        clear hst
        go_wp2_with fail
        refine (awk _).mono ?_
        rintro e W5 ⟨rfl, hb5⟩
        have B5 := Fact.mk (HB.out.trans (hb5.mono HB.out.size))
        clear hb5
        go_wp2_with fail
        go_ret
        exact ⟨rfl, B5.out⟩
    · obtain rfl : k = xs.length := by omega
      have HB := Fact.mk hst.out.bel
      clear hst
      go_wp2_with fail
      refine (awk _).mono ?_
      rintro e W5 ⟨rfl, hb5⟩
      have B5 := Fact.mk (HB.out.trans (hb5.mono HB.out.size))
      clear hb5
      go_wp2_with fail
      go_ret
      exact ⟨rfl, B5.out⟩
end Go.Proofs.Ytjanofopmmndoaa
