/- BlocksTurn: the walk. -/
import Derived.Test.YtjanofopmmndoaaTurnP
import Derived.StillTailTactics
namespace Go.Proofs.Ytjanofopmmndoaa
open Go.RowKit
theorem at_u8 {w : World} {v : Value} {xs : List Int} (h : Rd oneU8 1 w v xs) (i : Nat) (hi : i < xs.length) : ∃ b off c, v = .slice (some ⟨b, off, none⟩) xs.length c ∧ w.cell? ⟨b, off + i, none⟩ = some (.int .u8 xs[i]) := by
  obtain ⟨h0, A, c, rfl, h2, h4, h3⟩ := h
  obtain ⟨b, off, rfl, hc⟩ := h3 (by omega)
  refine ⟨b, off, c, rfl, ?_⟩
  have := hc i hi 0 (.int .u8 xs[i]) rfl
  rwa [show off + i * 1 + 0 = off + i by omega] at this
structure TurnSt (w wr : World) (V : Nat) (a : Nat) (want : Int) (lp : Bool) (k : Nat) : Prop where
  blk : BlkAt wr V (dkB (tr0 a) (tr1 a) true want lp)
  trk : wr.heap[V + 1]? = some (.cells #[.int .i64 0, .int .i64 0, .int .i64 1, .int .i64 0, .int .i64 1, .int .i64 1, .int .i64 0, .int .i64 1] 52 (0, 0))
  bel : Below w.heap.size w wr
  lo : w.heap.size ≤ V
  a : a < 4
  w1 : -(k : Int) ≤ want
  w2 : want ≤ k
set_option maxRecDepth 100000 in
set_option maxHeartbeats 8000000 in
theorem turn_any (awk : ∀ w, Calls Try.prog 20 #[] w fun e w' => e = .returned (.bool true) ∧ Below w.heap.size w w') (xs : List Int) (hxs : ∀ x ∈ xs, 0 ≤ x ∧ x ≤ 255) (vs : Value) (w : World) (hr : Rd oneU8 1 w vs xs) : Calls Try.prog 6 #[vs] w fun e w' => e = .returned (.bool true) ∧ Below w.heap.size w w' := by
  obtain ⟨A, c, rfl, l0⟩ : ∃ A c, vs = .slice A xs.length c ∧ xs.length ≤ 9223372036854775807 := by
    obtain ⟨h0, A, c, e, _⟩ := hr
    exact ⟨A, c, e, h0⟩
  have HR := Fact.mk hr
  have HXS := Fact.mk hxs
  clear hr hxs
  have n11 := new_any 11 (by decide) (by decide)
  unfold vBlk newB at n11
  go_enter Try.func6, Try.ntmps6
  go_wp2_with fail
  refine (n11 _).mono ?_
  rintro e W1 ⟨rfl, hb1⟩
  clear n11
  obtain ⟨t1, t2, t3, t4⟩ := two_blocks W1 (.cells #[.int .u8 11, .bool false, .bool false, .bool false, .bool false, .int .i64 0, .int .i64 0, .int .i64 0, .bool false, .bool false] 25) (.cells #[.int .i64 0, .int .i64 0, .int .i64 1, .int .i64 0, .int .i64 1, .int .i64 1, .int .i64 0, .int .i64 1] 52)
  have B1 := Fact.mk (hb1.trans (t1.mono hb1.size))
  have K1 : Fact (BlkAt ((W1.alloc (.cells #[.int .u8 11, .bool false, .bool false, .bool false, .bool false, .int .i64 0, .int .i64 0, .int .i64 0, .bool false, .bool false] 25)).alloc (.cells #[.int .i64 0, .int .i64 0, .int .i64 1, .int .i64 0, .int .i64 1, .int .i64 1, .int .i64 0, .int .i64 1] 52)) W1.heap.size (dkB false false false 0 false)) := ⟨t2⟩
  have T1 := Fact.mk t3
  have L1 := Fact.mk hb1.size
  have s1 := t4
  clear hb1 t1 t2 t3 t4
  go_wp2_with fail
  have j1 := lrun_new K1.out (run_dk (w0 := false) (w1 := false) (ran := false) (q := false) (cv := 0) (by decide) (by decide) false false false) (outs_dk (by decide) (by decide)) (by decide)
  rw [s1] at j1
  refine j1.mono ?_
  clear j1 s1
  rintro e W2 ⟨v1, rfl, -, k2, g2, -⟩
  have ST : Fact (TurnSt w W2 W1.heap.size 0 0 false 0) := ⟨⟨k2, grown_other g2 T1.out (by omega), B1.out.trans (grown_Below g2 B1.out.size L1.out), L1.out, by omega, by omega, by omega⟩⟩
  clear g2 k2
  go_wp2_with fail
  go_loopw [6, 7, 8, 9] (fun sa sw sl i wr => ∃ (k a : Nat) (want : Int) (lp : Bool), k ≤ xs.length ∧ k ≤ 60 ∧ i = .int .i64 k ∧ sa = .int .i64 a ∧ sw = .int .i64 want ∧ sl = .int .i64 (truthI lp) ∧ Fact (TurnSt w wr W1.heap.size a want lp k)) (fun _ _ _ i _ => 60 - (intOf i).toNat)
  case atStart => exact ⟨0, 0, 0, false, Nat.zero_le _, Nat.zero_le _, rfl, rfl, rfl, rfl, ST⟩
  case round =>
    obtain ⟨k, a, want, lp, hk, hk6, rfl, rfl, rfl, rfl, hst⟩ := hrel
    by_cases hlt : k < xs.length
    · by_cases h60 : k < 60
      · obtain ⟨bi, oi, ci', e, ci⟩ := at_u8 (HR.out.below hst.out.bel) k hlt
        cases e
        obtain ⟨x, hx⟩ : ∃ x, xs[k] = x := ⟨_, rfl⟩
        have hx0 := HXS.out _ (List.getElem_mem hlt)
        rw [hx] at ci hx0
        obtain ⟨x0, x255⟩ := hx0
        have i1 : (k : Int) < (xs.length : Int) := by omega
        have i2 : (k : Int) < 60 := by omega
        have w1 := hst.out.w1
        have w2 := hst.out.w2
        have ha4 := hst.out.a
        have CI := Fact.mk ci
        have lV : w.heap.size ≤ W1.heap.size := hst.out.lo
        clear hx
        rcases (by omega : a = 0 ∨ a = 1 ∨ a = 2 ∨ a = 3) with rfl | rfl | rfl | rfl
        · have ST := hst
          clear hst ci
          rcases (by omega : (x % 16 < 6) ∨ (6 ≤ x % 16 ∧ x % 16 < 12) ∨ (x % 16 = 12) ∨ (x % 16 = 13) ∨ (14 ≤ x % 16 ∧ x % 16 < 16)) with hc | hc | hc | hc | hc
          · have ci1 := CI.out
            have hrun := run_dk (w0 := tr0 0) (w1 := tr1 0) (ran := true) (q := lp) (cv := want) (by omega) (by omega) true false false
            have hrun2 : runB (dkB (tr0 0) (tr1 0) true want lp) [1, 0, 0] 0 = (dkB (tr0 1) (tr1 1) true (want + 1) lp, 0) := by
              rw [show ([1, 0, 0] : List Int) = [truthI true, truthI false, truthI false] from rfl, hrun]
              have e1 : cvD want false true (turnOf true false (tr0 0) (tr1 0)) = (want + 1) := by show _ = (want + 1); exact (show min (want + 1) 2147483647 = want + 1 by omega)
              have e2 : qD lp false true (turnOf true false (tr0 0) (tr1 0)) = lp := rfl
              rw [e1, e2]; rfl
            have houts : outsB (dkB (tr0 1) (tr1 1) true (want + 1) lp) = [(want + 1), truthI lp] := outs_dk (by omega) (by omega)
            have RUN := Fact.mk hrun2
            have OUT := Fact.mk houts
            clear hrun hrun2 houts
            go_wp2_with fail
            refine still_tail 9 (by kernel_rfl) (by kernel_rfl) (fun W => Below wr.heap.size wr W) (below_dn wr 1) ?_
            intro W hW
            have HW := Fact.mk hW
            have ST2 : Fact (BlkAt W W1.heap.size (dkB (tr0 0) (tr1 0) true want lp)) := ⟨ST.out.blk.below hW⟩
            have tk : W.heap[W1.heap.size + 1]? = some (.cells #[.int .i64 0, .int .i64 0, .int .i64 1, .int .i64 0, .int .i64 1, .int .i64 1, .int .i64 0, .int .i64 1] 52 (0, 0)) := by rw [hW.block _ (Array.getElem?_eq_some_iff.1 ST.out.trk).1]; exact ST.out.trk
            have TK := Fact.mk tk
            have z0 := cell_of_row W (W1.heap.size + 1) 2 _ _ _ tk
            have z1 := cell_of_row W (W1.heap.size + 1) 3 _ _ _ tk
            clear hW tk
            simp only [List.take_succ_cons, List.take_zero, List.drop_succ_cons, List.drop_zero]
            repeat still_step
            refine wpStill_nil ?_
            go_wp2_with fail
            refine (lrun_new ST2.out RUN.out OUT.out (by decide)).mono ?_
            rintro e W4 ⟨v2, rfl, rd2, k4, g4, -⟩
            obtain ⟨y0, y1, y2, rfl, yc0, yc1⟩ := rd2.two64
            have bw : Below w.heap.size w W := ST.out.bel.trans (HW.out.mono ST.out.bel.size)
            have ST4 : Fact (TurnSt w W4 W1.heap.size 1 (want + 1) lp (k + 1)) := ⟨⟨k4, grown_other g4 TK.out (by omega), bw.trans (grown_Below g4 bw.size lV), lV, by omega, by omega, by omega⟩⟩
            clear g4 k4 rd2 bw z0 z1 ci1
            go_wp2_with fail
            go_roundw
            case rel => exact ⟨k + 1, 1, (want + 1), lp, by omega, by omega, by go_num, rfl, rfl, rfl, ST4⟩
            case measure => simp [intOf]; omega
          · have ci1 := CI.out
            have hrun := run_dk (w0 := tr0 0) (w1 := tr1 0) (ran := true) (q := lp) (cv := want) (by omega) (by omega) false true false
            have hrun2 : runB (dkB (tr0 0) (tr1 0) true want lp) [0, 1, 0] 0 = (dkB (tr0 3) (tr1 3) true (want - 1) lp, 0) := by
              rw [show ([0, 1, 0] : List Int) = [truthI false, truthI true, truthI false] from rfl, hrun]
              have e1 : cvD want false true (turnOf false true (tr0 0) (tr1 0)) = (want - 1) := by show _ = (want - 1); exact (show max (want - 1) (-2147483648) = want - 1 by omega)
              have e2 : qD lp false true (turnOf false true (tr0 0) (tr1 0)) = lp := rfl
              rw [e1, e2]; rfl
            have houts : outsB (dkB (tr0 3) (tr1 3) true (want - 1) lp) = [(want - 1), truthI lp] := outs_dk (by omega) (by omega)
            have RUN := Fact.mk hrun2
            have OUT := Fact.mk houts
            clear hrun hrun2 houts
            go_wp2_with fail
            refine still_tail 9 (by kernel_rfl) (by kernel_rfl) (fun W => Below wr.heap.size wr W) (below_dn wr 1) ?_
            intro W hW
            have HW := Fact.mk hW
            have ST2 : Fact (BlkAt W W1.heap.size (dkB (tr0 0) (tr1 0) true want lp)) := ⟨ST.out.blk.below hW⟩
            have tk : W.heap[W1.heap.size + 1]? = some (.cells #[.int .i64 0, .int .i64 0, .int .i64 1, .int .i64 0, .int .i64 1, .int .i64 1, .int .i64 0, .int .i64 1] 52 (0, 0)) := by rw [hW.block _ (Array.getElem?_eq_some_iff.1 ST.out.trk).1]; exact ST.out.trk
            have TK := Fact.mk tk
            have z0 := cell_of_row W (W1.heap.size + 1) 6 _ _ _ tk
            have z1 := cell_of_row W (W1.heap.size + 1) 7 _ _ _ tk
            clear hW tk
            simp only [List.take_succ_cons, List.take_zero, List.drop_succ_cons, List.drop_zero]
            repeat still_step
            refine wpStill_nil ?_
            go_wp2_with fail
            refine (lrun_new ST2.out RUN.out OUT.out (by decide)).mono ?_
            rintro e W4 ⟨v2, rfl, rd2, k4, g4, -⟩
            obtain ⟨y0, y1, y2, rfl, yc0, yc1⟩ := rd2.two64
            have bw : Below w.heap.size w W := ST.out.bel.trans (HW.out.mono ST.out.bel.size)
            have ST4 : Fact (TurnSt w W4 W1.heap.size 3 (want - 1) lp (k + 1)) := ⟨⟨k4, grown_other g4 TK.out (by omega), bw.trans (grown_Below g4 bw.size lV), lV, by omega, by omega, by omega⟩⟩
            clear g4 k4 rd2 bw z0 z1 ci1
            go_wp2_with fail
            go_roundw
            case rel => exact ⟨k + 1, 3, (want - 1), lp, by omega, by omega, by go_num, rfl, rfl, rfl, ST4⟩
            case measure => simp [intOf]; omega
          · have ci1 := CI.out
            have hrun := run_dk (w0 := tr0 0) (w1 := tr1 0) (ran := true) (q := lp) (cv := want) (by omega) (by omega) true true false
            have hrun2 : runB (dkB (tr0 0) (tr1 0) true want lp) [1, 1, 0] 0 = (dkB (tr0 2) (tr1 2) true want true, 0) := by
              rw [show ([1, 1, 0] : List Int) = [truthI true, truthI true, truthI false] from rfl, hrun]
              have e1 : cvD want false true (turnOf true true (tr0 0) (tr1 0)) = want := by show _ = want; rfl
              have e2 : qD lp false true (turnOf true true (tr0 0) (tr1 0)) = true := rfl
              rw [e1, e2]; rfl
            have houts : outsB (dkB (tr0 2) (tr1 2) true want true) = [want, truthI true] := outs_dk (by omega) (by omega)
            have RUN := Fact.mk hrun2
            have OUT := Fact.mk houts
            clear hrun hrun2 houts
            go_wp2_with fail
            refine still_tail 9 (by kernel_rfl) (by kernel_rfl) (fun W => Below wr.heap.size wr W) (below_dn wr 1) ?_
            intro W hW
            have HW := Fact.mk hW
            have ST2 : Fact (BlkAt W W1.heap.size (dkB (tr0 0) (tr1 0) true want lp)) := ⟨ST.out.blk.below hW⟩
            have tk : W.heap[W1.heap.size + 1]? = some (.cells #[.int .i64 0, .int .i64 0, .int .i64 1, .int .i64 0, .int .i64 1, .int .i64 1, .int .i64 0, .int .i64 1] 52 (0, 0)) := by rw [hW.block _ (Array.getElem?_eq_some_iff.1 ST.out.trk).1]; exact ST.out.trk
            have TK := Fact.mk tk
            have z0 := cell_of_row W (W1.heap.size + 1) 4 _ _ _ tk
            have z1 := cell_of_row W (W1.heap.size + 1) 5 _ _ _ tk
            clear hW tk
            simp only [List.take_succ_cons, List.take_zero, List.drop_succ_cons, List.drop_zero]
            repeat still_step
            refine wpStill_nil ?_
            go_wp2_with fail
            refine (lrun_new ST2.out RUN.out OUT.out (by decide)).mono ?_
            rintro e W4 ⟨v2, rfl, rd2, k4, g4, -⟩
            obtain ⟨y0, y1, y2, rfl, yc0, yc1⟩ := rd2.two64
            rw [show truthI true = 1 from rfl] at yc1
            have bw : Below w.heap.size w W := ST.out.bel.trans (HW.out.mono ST.out.bel.size)
            have ST4 : Fact (TurnSt w W4 W1.heap.size 2 want true (k + 1)) := ⟨⟨k4, grown_other g4 TK.out (by omega), bw.trans (grown_Below g4 bw.size lV), lV, by omega, by omega, by omega⟩⟩
            clear g4 k4 rd2 bw z0 z1 ci1
            go_wp2_with fail
            go_roundw
            case rel => exact ⟨k + 1, 2, want, true, by omega, by omega, by go_num, rfl, rfl, rfl, ST4⟩
            case measure => simp [intOf]; omega
          · have ci1 := CI.out
            have hrun := run_dk (w0 := tr0 0) (w1 := tr1 0) (ran := true) (q := lp) (cv := want) (by omega) (by omega) false false true
            have hrun2 : runB (dkB (tr0 0) (tr1 0) true want lp) [0, 0, 1] 0 = (dkB (tr0 0) (tr1 0) true 0 false, 0) := by
              rw [show ([0, 0, 1] : List Int) = [truthI false, truthI false, truthI true] from rfl, hrun]
              have e1 : cvD want true true (turnOf false false (tr0 0) (tr1 0)) = 0 := by show _ = 0; rfl
              have e2 : qD lp true true (turnOf false false (tr0 0) (tr1 0)) = false := rfl
              rw [e1, e2]; rfl
            have houts : outsB (dkB (tr0 0) (tr1 0) true 0 false) = [0, truthI false] := outs_dk (by omega) (by omega)
            have RUN := Fact.mk hrun2
            have OUT := Fact.mk houts
            clear hrun hrun2 houts
            go_wp2_with fail
            refine still_tail 9 (by kernel_rfl) (by kernel_rfl) (fun W => Below wr.heap.size wr W) (below_dn wr 1) ?_
            intro W hW
            have HW := Fact.mk hW
            have ST2 : Fact (BlkAt W W1.heap.size (dkB (tr0 0) (tr1 0) true want lp)) := ⟨ST.out.blk.below hW⟩
            have tk : W.heap[W1.heap.size + 1]? = some (.cells #[.int .i64 0, .int .i64 0, .int .i64 1, .int .i64 0, .int .i64 1, .int .i64 1, .int .i64 0, .int .i64 1] 52 (0, 0)) := by rw [hW.block _ (Array.getElem?_eq_some_iff.1 ST.out.trk).1]; exact ST.out.trk
            have TK := Fact.mk tk
            have z0 := cell_of_row W (W1.heap.size + 1) 0 _ _ _ tk
            have z1 := cell_of_row W (W1.heap.size + 1) 1 _ _ _ tk
            clear hW tk
            simp only [List.take_succ_cons, List.take_zero, List.drop_succ_cons, List.drop_zero]
            repeat still_step
            refine wpStill_nil ?_
            go_wp2_with fail
            refine (lrun_new ST2.out RUN.out OUT.out (by decide)).mono ?_
            rintro e W4 ⟨v2, rfl, rd2, k4, g4, -⟩
            obtain ⟨y0, y1, y2, rfl, yc0, yc1⟩ := rd2.two64
            rw [show truthI false = 0 from rfl] at yc1
            have bw : Below w.heap.size w W := ST.out.bel.trans (HW.out.mono ST.out.bel.size)
            have ST4 : Fact (TurnSt w W4 W1.heap.size 0 0 false (k + 1)) := ⟨⟨k4, grown_other g4 TK.out (by omega), bw.trans (grown_Below g4 bw.size lV), lV, by omega, by omega, by omega⟩⟩
            clear g4 k4 rd2 bw z0 z1 ci1
            go_wp2_with fail
            go_roundw
            case rel => exact ⟨k + 1, 0, 0, false, by omega, by omega, by go_num, rfl, rfl, rfl, ST4⟩
            case measure => simp [intOf]; omega
          · have ci1 := CI.out
            have hrun := run_dk (w0 := tr0 0) (w1 := tr1 0) (ran := true) (q := lp) (cv := want) (by omega) (by omega) false false false
            have hrun2 : runB (dkB (tr0 0) (tr1 0) true want lp) [0, 0, 0] 0 = (dkB (tr0 0) (tr1 0) true want lp, 0) := by
              rw [show ([0, 0, 0] : List Int) = [truthI false, truthI false, truthI false] from rfl, hrun]
              have e1 : cvD want false true (turnOf false false (tr0 0) (tr1 0)) = want := by show _ = want; rfl
              have e2 : qD lp false true (turnOf false false (tr0 0) (tr1 0)) = lp := rfl
              rw [e1, e2]; rfl
            have houts : outsB (dkB (tr0 0) (tr1 0) true want lp) = [want, truthI lp] := outs_dk (by omega) (by omega)
            have RUN := Fact.mk hrun2
            have OUT := Fact.mk houts
            clear hrun hrun2 houts
            go_wp2_with fail
            refine still_tail 9 (by kernel_rfl) (by kernel_rfl) (fun W => Below wr.heap.size wr W) (below_dn wr 1) ?_
            intro W hW
            have HW := Fact.mk hW
            have ST2 : Fact (BlkAt W W1.heap.size (dkB (tr0 0) (tr1 0) true want lp)) := ⟨ST.out.blk.below hW⟩
            have tk : W.heap[W1.heap.size + 1]? = some (.cells #[.int .i64 0, .int .i64 0, .int .i64 1, .int .i64 0, .int .i64 1, .int .i64 1, .int .i64 0, .int .i64 1] 52 (0, 0)) := by rw [hW.block _ (Array.getElem?_eq_some_iff.1 ST.out.trk).1]; exact ST.out.trk
            have TK := Fact.mk tk
            have z0 := cell_of_row W (W1.heap.size + 1) 0 _ _ _ tk
            have z1 := cell_of_row W (W1.heap.size + 1) 1 _ _ _ tk
            clear hW tk
            simp only [List.take_succ_cons, List.take_zero, List.drop_succ_cons, List.drop_zero]
            repeat still_step
            refine wpStill_nil ?_
            go_wp2_with fail
            refine (lrun_new ST2.out RUN.out OUT.out (by decide)).mono ?_
            rintro e W4 ⟨v2, rfl, rd2, k4, g4, -⟩
            obtain ⟨y0, y1, y2, rfl, yc0, yc1⟩ := rd2.two64
            have bw : Below w.heap.size w W := ST.out.bel.trans (HW.out.mono ST.out.bel.size)
            have ST4 : Fact (TurnSt w W4 W1.heap.size 0 want lp (k + 1)) := ⟨⟨k4, grown_other g4 TK.out (by omega), bw.trans (grown_Below g4 bw.size lV), lV, by omega, by omega, by omega⟩⟩
            clear g4 k4 rd2 bw z0 z1 ci1
            go_wp2_with fail
            go_roundw
            case rel => exact ⟨k + 1, 0, want, lp, by omega, by omega, by go_num, rfl, rfl, rfl, ST4⟩
            case measure => simp [intOf]; omega
        · have ST := hst
          clear hst ci
          rcases (by omega : (x % 16 < 6) ∨ (6 ≤ x % 16 ∧ x % 16 < 12) ∨ (x % 16 = 12) ∨ (x % 16 = 13) ∨ (14 ≤ x % 16 ∧ x % 16 < 16)) with hc | hc | hc | hc | hc
          · have ci1 := CI.out
            have hrun := run_dk (w0 := tr0 1) (w1 := tr1 1) (ran := true) (q := lp) (cv := want) (by omega) (by omega) true true false
            have hrun2 : runB (dkB (tr0 1) (tr1 1) true want lp) [1, 1, 0] 0 = (dkB (tr0 2) (tr1 2) true (want + 1) lp, 0) := by
              rw [show ([1, 1, 0] : List Int) = [truthI true, truthI true, truthI false] from rfl, hrun]
              have e1 : cvD want false true (turnOf true true (tr0 1) (tr1 1)) = (want + 1) := by show _ = (want + 1); exact (show min (want + 1) 2147483647 = want + 1 by omega)
              have e2 : qD lp false true (turnOf true true (tr0 1) (tr1 1)) = lp := rfl
              rw [e1, e2]; rfl
            have houts : outsB (dkB (tr0 2) (tr1 2) true (want + 1) lp) = [(want + 1), truthI lp] := outs_dk (by omega) (by omega)
            have RUN := Fact.mk hrun2
            have OUT := Fact.mk houts
            clear hrun hrun2 houts
            go_wp2_with fail
            refine still_tail 9 (by kernel_rfl) (by kernel_rfl) (fun W => Below wr.heap.size wr W) (below_dn wr 1) ?_
            intro W hW
            have HW := Fact.mk hW
            have ST2 : Fact (BlkAt W W1.heap.size (dkB (tr0 1) (tr1 1) true want lp)) := ⟨ST.out.blk.below hW⟩
            have tk : W.heap[W1.heap.size + 1]? = some (.cells #[.int .i64 0, .int .i64 0, .int .i64 1, .int .i64 0, .int .i64 1, .int .i64 1, .int .i64 0, .int .i64 1] 52 (0, 0)) := by rw [hW.block _ (Array.getElem?_eq_some_iff.1 ST.out.trk).1]; exact ST.out.trk
            have TK := Fact.mk tk
            have z0 := cell_of_row W (W1.heap.size + 1) 4 _ _ _ tk
            have z1 := cell_of_row W (W1.heap.size + 1) 5 _ _ _ tk
            clear hW tk
            simp only [List.take_succ_cons, List.take_zero, List.drop_succ_cons, List.drop_zero]
            repeat still_step
            refine wpStill_nil ?_
            go_wp2_with fail
            refine (lrun_new ST2.out RUN.out OUT.out (by decide)).mono ?_
            rintro e W4 ⟨v2, rfl, rd2, k4, g4, -⟩
            obtain ⟨y0, y1, y2, rfl, yc0, yc1⟩ := rd2.two64
            have bw : Below w.heap.size w W := ST.out.bel.trans (HW.out.mono ST.out.bel.size)
            have ST4 : Fact (TurnSt w W4 W1.heap.size 2 (want + 1) lp (k + 1)) := ⟨⟨k4, grown_other g4 TK.out (by omega), bw.trans (grown_Below g4 bw.size lV), lV, by omega, by omega, by omega⟩⟩
            clear g4 k4 rd2 bw z0 z1 ci1
            go_wp2_with fail
            go_roundw
            case rel => exact ⟨k + 1, 2, (want + 1), lp, by omega, by omega, by go_num, rfl, rfl, rfl, ST4⟩
            case measure => simp [intOf]; omega
          · have ci1 := CI.out
            have hrun := run_dk (w0 := tr0 1) (w1 := tr1 1) (ran := true) (q := lp) (cv := want) (by omega) (by omega) false false false
            have hrun2 : runB (dkB (tr0 1) (tr1 1) true want lp) [0, 0, 0] 0 = (dkB (tr0 0) (tr1 0) true (want - 1) lp, 0) := by
              rw [show ([0, 0, 0] : List Int) = [truthI false, truthI false, truthI false] from rfl, hrun]
              have e1 : cvD want false true (turnOf false false (tr0 1) (tr1 1)) = (want - 1) := by show _ = (want - 1); exact (show max (want - 1) (-2147483648) = want - 1 by omega)
              have e2 : qD lp false true (turnOf false false (tr0 1) (tr1 1)) = lp := rfl
              rw [e1, e2]; rfl
            have houts : outsB (dkB (tr0 0) (tr1 0) true (want - 1) lp) = [(want - 1), truthI lp] := outs_dk (by omega) (by omega)
            have RUN := Fact.mk hrun2
            have OUT := Fact.mk houts
            clear hrun hrun2 houts
            go_wp2_with fail
            refine still_tail 9 (by kernel_rfl) (by kernel_rfl) (fun W => Below wr.heap.size wr W) (below_dn wr 1) ?_
            intro W hW
            have HW := Fact.mk hW
            have ST2 : Fact (BlkAt W W1.heap.size (dkB (tr0 1) (tr1 1) true want lp)) := ⟨ST.out.blk.below hW⟩
            have tk : W.heap[W1.heap.size + 1]? = some (.cells #[.int .i64 0, .int .i64 0, .int .i64 1, .int .i64 0, .int .i64 1, .int .i64 1, .int .i64 0, .int .i64 1] 52 (0, 0)) := by rw [hW.block _ (Array.getElem?_eq_some_iff.1 ST.out.trk).1]; exact ST.out.trk
            have TK := Fact.mk tk
            have z0 := cell_of_row W (W1.heap.size + 1) 0 _ _ _ tk
            have z1 := cell_of_row W (W1.heap.size + 1) 1 _ _ _ tk
            clear hW tk
            simp only [List.take_succ_cons, List.take_zero, List.drop_succ_cons, List.drop_zero]
            repeat still_step
            refine wpStill_nil ?_
            go_wp2_with fail
            refine (lrun_new ST2.out RUN.out OUT.out (by decide)).mono ?_
            rintro e W4 ⟨v2, rfl, rd2, k4, g4, -⟩
            obtain ⟨y0, y1, y2, rfl, yc0, yc1⟩ := rd2.two64
            have bw : Below w.heap.size w W := ST.out.bel.trans (HW.out.mono ST.out.bel.size)
            have ST4 : Fact (TurnSt w W4 W1.heap.size 0 (want - 1) lp (k + 1)) := ⟨⟨k4, grown_other g4 TK.out (by omega), bw.trans (grown_Below g4 bw.size lV), lV, by omega, by omega, by omega⟩⟩
            clear g4 k4 rd2 bw z0 z1 ci1
            go_wp2_with fail
            go_roundw
            case rel => exact ⟨k + 1, 0, (want - 1), lp, by omega, by omega, by go_num, rfl, rfl, rfl, ST4⟩
            case measure => simp [intOf]; omega
          · have ci1 := CI.out
            have hrun := run_dk (w0 := tr0 1) (w1 := tr1 1) (ran := true) (q := lp) (cv := want) (by omega) (by omega) false true false
            have hrun2 : runB (dkB (tr0 1) (tr1 1) true want lp) [0, 1, 0] 0 = (dkB (tr0 3) (tr1 3) true want true, 0) := by
              rw [show ([0, 1, 0] : List Int) = [truthI false, truthI true, truthI false] from rfl, hrun]
              have e1 : cvD want false true (turnOf false true (tr0 1) (tr1 1)) = want := by show _ = want; rfl
              have e2 : qD lp false true (turnOf false true (tr0 1) (tr1 1)) = true := rfl
              rw [e1, e2]; rfl
            have houts : outsB (dkB (tr0 3) (tr1 3) true want true) = [want, truthI true] := outs_dk (by omega) (by omega)
            have RUN := Fact.mk hrun2
            have OUT := Fact.mk houts
            clear hrun hrun2 houts
            go_wp2_with fail
            refine still_tail 9 (by kernel_rfl) (by kernel_rfl) (fun W => Below wr.heap.size wr W) (below_dn wr 1) ?_
            intro W hW
            have HW := Fact.mk hW
            have ST2 : Fact (BlkAt W W1.heap.size (dkB (tr0 1) (tr1 1) true want lp)) := ⟨ST.out.blk.below hW⟩
            have tk : W.heap[W1.heap.size + 1]? = some (.cells #[.int .i64 0, .int .i64 0, .int .i64 1, .int .i64 0, .int .i64 1, .int .i64 1, .int .i64 0, .int .i64 1] 52 (0, 0)) := by rw [hW.block _ (Array.getElem?_eq_some_iff.1 ST.out.trk).1]; exact ST.out.trk
            have TK := Fact.mk tk
            have z0 := cell_of_row W (W1.heap.size + 1) 6 _ _ _ tk
            have z1 := cell_of_row W (W1.heap.size + 1) 7 _ _ _ tk
            clear hW tk
            simp only [List.take_succ_cons, List.take_zero, List.drop_succ_cons, List.drop_zero]
            repeat still_step
            refine wpStill_nil ?_
            go_wp2_with fail
            refine (lrun_new ST2.out RUN.out OUT.out (by decide)).mono ?_
            rintro e W4 ⟨v2, rfl, rd2, k4, g4, -⟩
            obtain ⟨y0, y1, y2, rfl, yc0, yc1⟩ := rd2.two64
            rw [show truthI true = 1 from rfl] at yc1
            have bw : Below w.heap.size w W := ST.out.bel.trans (HW.out.mono ST.out.bel.size)
            have ST4 : Fact (TurnSt w W4 W1.heap.size 3 want true (k + 1)) := ⟨⟨k4, grown_other g4 TK.out (by omega), bw.trans (grown_Below g4 bw.size lV), lV, by omega, by omega, by omega⟩⟩
            clear g4 k4 rd2 bw z0 z1 ci1
            go_wp2_with fail
            go_roundw
            case rel => exact ⟨k + 1, 3, want, true, by omega, by omega, by go_num, rfl, rfl, rfl, ST4⟩
            case measure => simp [intOf]; omega
          · have ci1 := CI.out
            have hrun := run_dk (w0 := tr0 1) (w1 := tr1 1) (ran := true) (q := lp) (cv := want) (by omega) (by omega) true false true
            have hrun2 : runB (dkB (tr0 1) (tr1 1) true want lp) [1, 0, 1] 0 = (dkB (tr0 1) (tr1 1) true 0 false, 0) := by
              rw [show ([1, 0, 1] : List Int) = [truthI true, truthI false, truthI true] from rfl, hrun]
              have e1 : cvD want true true (turnOf true false (tr0 1) (tr1 1)) = 0 := by show _ = 0; rfl
              have e2 : qD lp true true (turnOf true false (tr0 1) (tr1 1)) = false := rfl
              rw [e1, e2]; rfl
            have houts : outsB (dkB (tr0 1) (tr1 1) true 0 false) = [0, truthI false] := outs_dk (by omega) (by omega)
            have RUN := Fact.mk hrun2
            have OUT := Fact.mk houts
            clear hrun hrun2 houts
            go_wp2_with fail
            refine still_tail 9 (by kernel_rfl) (by kernel_rfl) (fun W => Below wr.heap.size wr W) (below_dn wr 1) ?_
            intro W hW
            have HW := Fact.mk hW
            have ST2 : Fact (BlkAt W W1.heap.size (dkB (tr0 1) (tr1 1) true want lp)) := ⟨ST.out.blk.below hW⟩
            have tk : W.heap[W1.heap.size + 1]? = some (.cells #[.int .i64 0, .int .i64 0, .int .i64 1, .int .i64 0, .int .i64 1, .int .i64 1, .int .i64 0, .int .i64 1] 52 (0, 0)) := by rw [hW.block _ (Array.getElem?_eq_some_iff.1 ST.out.trk).1]; exact ST.out.trk
            have TK := Fact.mk tk
            have z0 := cell_of_row W (W1.heap.size + 1) 2 _ _ _ tk
            have z1 := cell_of_row W (W1.heap.size + 1) 3 _ _ _ tk
            clear hW tk
            simp only [List.take_succ_cons, List.take_zero, List.drop_succ_cons, List.drop_zero]
            repeat still_step
            refine wpStill_nil ?_
            go_wp2_with fail
            refine (lrun_new ST2.out RUN.out OUT.out (by decide)).mono ?_
            rintro e W4 ⟨v2, rfl, rd2, k4, g4, -⟩
            obtain ⟨y0, y1, y2, rfl, yc0, yc1⟩ := rd2.two64
            rw [show truthI false = 0 from rfl] at yc1
            have bw : Below w.heap.size w W := ST.out.bel.trans (HW.out.mono ST.out.bel.size)
            have ST4 : Fact (TurnSt w W4 W1.heap.size 1 0 false (k + 1)) := ⟨⟨k4, grown_other g4 TK.out (by omega), bw.trans (grown_Below g4 bw.size lV), lV, by omega, by omega, by omega⟩⟩
            clear g4 k4 rd2 bw z0 z1 ci1
            go_wp2_with fail
            go_roundw
            case rel => exact ⟨k + 1, 1, 0, false, by omega, by omega, by go_num, rfl, rfl, rfl, ST4⟩
            case measure => simp [intOf]; omega
          · have ci1 := CI.out
            have hrun := run_dk (w0 := tr0 1) (w1 := tr1 1) (ran := true) (q := lp) (cv := want) (by omega) (by omega) true false false
            have hrun2 : runB (dkB (tr0 1) (tr1 1) true want lp) [1, 0, 0] 0 = (dkB (tr0 1) (tr1 1) true want lp, 0) := by
              rw [show ([1, 0, 0] : List Int) = [truthI true, truthI false, truthI false] from rfl, hrun]
              have e1 : cvD want false true (turnOf true false (tr0 1) (tr1 1)) = want := by show _ = want; rfl
              have e2 : qD lp false true (turnOf true false (tr0 1) (tr1 1)) = lp := rfl
              rw [e1, e2]; rfl
            have houts : outsB (dkB (tr0 1) (tr1 1) true want lp) = [want, truthI lp] := outs_dk (by omega) (by omega)
            have RUN := Fact.mk hrun2
            have OUT := Fact.mk houts
            clear hrun hrun2 houts
            go_wp2_with fail
            refine still_tail 9 (by kernel_rfl) (by kernel_rfl) (fun W => Below wr.heap.size wr W) (below_dn wr 1) ?_
            intro W hW
            have HW := Fact.mk hW
            have ST2 : Fact (BlkAt W W1.heap.size (dkB (tr0 1) (tr1 1) true want lp)) := ⟨ST.out.blk.below hW⟩
            have tk : W.heap[W1.heap.size + 1]? = some (.cells #[.int .i64 0, .int .i64 0, .int .i64 1, .int .i64 0, .int .i64 1, .int .i64 1, .int .i64 0, .int .i64 1] 52 (0, 0)) := by rw [hW.block _ (Array.getElem?_eq_some_iff.1 ST.out.trk).1]; exact ST.out.trk
            have TK := Fact.mk tk
            have z0 := cell_of_row W (W1.heap.size + 1) 2 _ _ _ tk
            have z1 := cell_of_row W (W1.heap.size + 1) 3 _ _ _ tk
            clear hW tk
            simp only [List.take_succ_cons, List.take_zero, List.drop_succ_cons, List.drop_zero]
            repeat still_step
            refine wpStill_nil ?_
            go_wp2_with fail
            refine (lrun_new ST2.out RUN.out OUT.out (by decide)).mono ?_
            rintro e W4 ⟨v2, rfl, rd2, k4, g4, -⟩
            obtain ⟨y0, y1, y2, rfl, yc0, yc1⟩ := rd2.two64
            have bw : Below w.heap.size w W := ST.out.bel.trans (HW.out.mono ST.out.bel.size)
            have ST4 : Fact (TurnSt w W4 W1.heap.size 1 want lp (k + 1)) := ⟨⟨k4, grown_other g4 TK.out (by omega), bw.trans (grown_Below g4 bw.size lV), lV, by omega, by omega, by omega⟩⟩
            clear g4 k4 rd2 bw z0 z1 ci1
            go_wp2_with fail
            go_roundw
            case rel => exact ⟨k + 1, 1, want, lp, by omega, by omega, by go_num, rfl, rfl, rfl, ST4⟩
            case measure => simp [intOf]; omega
        · have ST := hst
          clear hst ci
          rcases (by omega : (x % 16 < 6) ∨ (6 ≤ x % 16 ∧ x % 16 < 12) ∨ (x % 16 = 12) ∨ (x % 16 = 13) ∨ (14 ≤ x % 16 ∧ x % 16 < 16)) with hc | hc | hc | hc | hc
          · have ci1 := CI.out
            have hrun := run_dk (w0 := tr0 2) (w1 := tr1 2) (ran := true) (q := lp) (cv := want) (by omega) (by omega) false true false
            have hrun2 : runB (dkB (tr0 2) (tr1 2) true want lp) [0, 1, 0] 0 = (dkB (tr0 3) (tr1 3) true (want + 1) lp, 0) := by
              rw [show ([0, 1, 0] : List Int) = [truthI false, truthI true, truthI false] from rfl, hrun]
              have e1 : cvD want false true (turnOf false true (tr0 2) (tr1 2)) = (want + 1) := by show _ = (want + 1); exact (show min (want + 1) 2147483647 = want + 1 by omega)
              have e2 : qD lp false true (turnOf false true (tr0 2) (tr1 2)) = lp := rfl
              rw [e1, e2]; rfl
            have houts : outsB (dkB (tr0 3) (tr1 3) true (want + 1) lp) = [(want + 1), truthI lp] := outs_dk (by omega) (by omega)
            have RUN := Fact.mk hrun2
            have OUT := Fact.mk houts
            clear hrun hrun2 houts
            go_wp2_with fail
            refine still_tail 9 (by kernel_rfl) (by kernel_rfl) (fun W => Below wr.heap.size wr W) (below_dn wr 1) ?_
            intro W hW
            have HW := Fact.mk hW
            have ST2 : Fact (BlkAt W W1.heap.size (dkB (tr0 2) (tr1 2) true want lp)) := ⟨ST.out.blk.below hW⟩
            have tk : W.heap[W1.heap.size + 1]? = some (.cells #[.int .i64 0, .int .i64 0, .int .i64 1, .int .i64 0, .int .i64 1, .int .i64 1, .int .i64 0, .int .i64 1] 52 (0, 0)) := by rw [hW.block _ (Array.getElem?_eq_some_iff.1 ST.out.trk).1]; exact ST.out.trk
            have TK := Fact.mk tk
            have z0 := cell_of_row W (W1.heap.size + 1) 6 _ _ _ tk
            have z1 := cell_of_row W (W1.heap.size + 1) 7 _ _ _ tk
            clear hW tk
            simp only [List.take_succ_cons, List.take_zero, List.drop_succ_cons, List.drop_zero]
            repeat still_step
            refine wpStill_nil ?_
            go_wp2_with fail
            refine (lrun_new ST2.out RUN.out OUT.out (by decide)).mono ?_
            rintro e W4 ⟨v2, rfl, rd2, k4, g4, -⟩
            obtain ⟨y0, y1, y2, rfl, yc0, yc1⟩ := rd2.two64
            have bw : Below w.heap.size w W := ST.out.bel.trans (HW.out.mono ST.out.bel.size)
            have ST4 : Fact (TurnSt w W4 W1.heap.size 3 (want + 1) lp (k + 1)) := ⟨⟨k4, grown_other g4 TK.out (by omega), bw.trans (grown_Below g4 bw.size lV), lV, by omega, by omega, by omega⟩⟩
            clear g4 k4 rd2 bw z0 z1 ci1
            go_wp2_with fail
            go_roundw
            case rel => exact ⟨k + 1, 3, (want + 1), lp, by omega, by omega, by go_num, rfl, rfl, rfl, ST4⟩
            case measure => simp [intOf]; omega
          · have ci1 := CI.out
            have hrun := run_dk (w0 := tr0 2) (w1 := tr1 2) (ran := true) (q := lp) (cv := want) (by omega) (by omega) true false false
            have hrun2 : runB (dkB (tr0 2) (tr1 2) true want lp) [1, 0, 0] 0 = (dkB (tr0 1) (tr1 1) true (want - 1) lp, 0) := by
              rw [show ([1, 0, 0] : List Int) = [truthI true, truthI false, truthI false] from rfl, hrun]
              have e1 : cvD want false true (turnOf true false (tr0 2) (tr1 2)) = (want - 1) := by show _ = (want - 1); exact (show max (want - 1) (-2147483648) = want - 1 by omega)
              have e2 : qD lp false true (turnOf true false (tr0 2) (tr1 2)) = lp := rfl
              rw [e1, e2]; rfl
            have houts : outsB (dkB (tr0 1) (tr1 1) true (want - 1) lp) = [(want - 1), truthI lp] := outs_dk (by omega) (by omega)
            have RUN := Fact.mk hrun2
            have OUT := Fact.mk houts
            clear hrun hrun2 houts
            go_wp2_with fail
            refine still_tail 9 (by kernel_rfl) (by kernel_rfl) (fun W => Below wr.heap.size wr W) (below_dn wr 1) ?_
            intro W hW
            have HW := Fact.mk hW
            have ST2 : Fact (BlkAt W W1.heap.size (dkB (tr0 2) (tr1 2) true want lp)) := ⟨ST.out.blk.below hW⟩
            have tk : W.heap[W1.heap.size + 1]? = some (.cells #[.int .i64 0, .int .i64 0, .int .i64 1, .int .i64 0, .int .i64 1, .int .i64 1, .int .i64 0, .int .i64 1] 52 (0, 0)) := by rw [hW.block _ (Array.getElem?_eq_some_iff.1 ST.out.trk).1]; exact ST.out.trk
            have TK := Fact.mk tk
            have z0 := cell_of_row W (W1.heap.size + 1) 2 _ _ _ tk
            have z1 := cell_of_row W (W1.heap.size + 1) 3 _ _ _ tk
            clear hW tk
            simp only [List.take_succ_cons, List.take_zero, List.drop_succ_cons, List.drop_zero]
            repeat still_step
            refine wpStill_nil ?_
            go_wp2_with fail
            refine (lrun_new ST2.out RUN.out OUT.out (by decide)).mono ?_
            rintro e W4 ⟨v2, rfl, rd2, k4, g4, -⟩
            obtain ⟨y0, y1, y2, rfl, yc0, yc1⟩ := rd2.two64
            have bw : Below w.heap.size w W := ST.out.bel.trans (HW.out.mono ST.out.bel.size)
            have ST4 : Fact (TurnSt w W4 W1.heap.size 1 (want - 1) lp (k + 1)) := ⟨⟨k4, grown_other g4 TK.out (by omega), bw.trans (grown_Below g4 bw.size lV), lV, by omega, by omega, by omega⟩⟩
            clear g4 k4 rd2 bw z0 z1 ci1
            go_wp2_with fail
            go_roundw
            case rel => exact ⟨k + 1, 1, (want - 1), lp, by omega, by omega, by go_num, rfl, rfl, rfl, ST4⟩
            case measure => simp [intOf]; omega
          · have ci1 := CI.out
            have hrun := run_dk (w0 := tr0 2) (w1 := tr1 2) (ran := true) (q := lp) (cv := want) (by omega) (by omega) false false false
            have hrun2 : runB (dkB (tr0 2) (tr1 2) true want lp) [0, 0, 0] 0 = (dkB (tr0 0) (tr1 0) true want true, 0) := by
              rw [show ([0, 0, 0] : List Int) = [truthI false, truthI false, truthI false] from rfl, hrun]
              have e1 : cvD want false true (turnOf false false (tr0 2) (tr1 2)) = want := by show _ = want; rfl
              have e2 : qD lp false true (turnOf false false (tr0 2) (tr1 2)) = true := rfl
              rw [e1, e2]; rfl
            have houts : outsB (dkB (tr0 0) (tr1 0) true want true) = [want, truthI true] := outs_dk (by omega) (by omega)
            have RUN := Fact.mk hrun2
            have OUT := Fact.mk houts
            clear hrun hrun2 houts
            go_wp2_with fail
            refine still_tail 9 (by kernel_rfl) (by kernel_rfl) (fun W => Below wr.heap.size wr W) (below_dn wr 1) ?_
            intro W hW
            have HW := Fact.mk hW
            have ST2 : Fact (BlkAt W W1.heap.size (dkB (tr0 2) (tr1 2) true want lp)) := ⟨ST.out.blk.below hW⟩
            have tk : W.heap[W1.heap.size + 1]? = some (.cells #[.int .i64 0, .int .i64 0, .int .i64 1, .int .i64 0, .int .i64 1, .int .i64 1, .int .i64 0, .int .i64 1] 52 (0, 0)) := by rw [hW.block _ (Array.getElem?_eq_some_iff.1 ST.out.trk).1]; exact ST.out.trk
            have TK := Fact.mk tk
            have z0 := cell_of_row W (W1.heap.size + 1) 0 _ _ _ tk
            have z1 := cell_of_row W (W1.heap.size + 1) 1 _ _ _ tk
            clear hW tk
            simp only [List.take_succ_cons, List.take_zero, List.drop_succ_cons, List.drop_zero]
            repeat still_step
            refine wpStill_nil ?_
            go_wp2_with fail
            refine (lrun_new ST2.out RUN.out OUT.out (by decide)).mono ?_
            rintro e W4 ⟨v2, rfl, rd2, k4, g4, -⟩
            obtain ⟨y0, y1, y2, rfl, yc0, yc1⟩ := rd2.two64
            rw [show truthI true = 1 from rfl] at yc1
            have bw : Below w.heap.size w W := ST.out.bel.trans (HW.out.mono ST.out.bel.size)
            have ST4 : Fact (TurnSt w W4 W1.heap.size 0 want true (k + 1)) := ⟨⟨k4, grown_other g4 TK.out (by omega), bw.trans (grown_Below g4 bw.size lV), lV, by omega, by omega, by omega⟩⟩
            clear g4 k4 rd2 bw z0 z1 ci1
            go_wp2_with fail
            go_roundw
            case rel => exact ⟨k + 1, 0, want, true, by omega, by omega, by go_num, rfl, rfl, rfl, ST4⟩
            case measure => simp [intOf]; omega
          · have ci1 := CI.out
            have hrun := run_dk (w0 := tr0 2) (w1 := tr1 2) (ran := true) (q := lp) (cv := want) (by omega) (by omega) true true true
            have hrun2 : runB (dkB (tr0 2) (tr1 2) true want lp) [1, 1, 1] 0 = (dkB (tr0 2) (tr1 2) true 0 false, 0) := by
              rw [show ([1, 1, 1] : List Int) = [truthI true, truthI true, truthI true] from rfl, hrun]
              have e1 : cvD want true true (turnOf true true (tr0 2) (tr1 2)) = 0 := by show _ = 0; rfl
              have e2 : qD lp true true (turnOf true true (tr0 2) (tr1 2)) = false := rfl
              rw [e1, e2]; rfl
            have houts : outsB (dkB (tr0 2) (tr1 2) true 0 false) = [0, truthI false] := outs_dk (by omega) (by omega)
            have RUN := Fact.mk hrun2
            have OUT := Fact.mk houts
            clear hrun hrun2 houts
            go_wp2_with fail
            refine still_tail 9 (by kernel_rfl) (by kernel_rfl) (fun W => Below wr.heap.size wr W) (below_dn wr 1) ?_
            intro W hW
            have HW := Fact.mk hW
            have ST2 : Fact (BlkAt W W1.heap.size (dkB (tr0 2) (tr1 2) true want lp)) := ⟨ST.out.blk.below hW⟩
            have tk : W.heap[W1.heap.size + 1]? = some (.cells #[.int .i64 0, .int .i64 0, .int .i64 1, .int .i64 0, .int .i64 1, .int .i64 1, .int .i64 0, .int .i64 1] 52 (0, 0)) := by rw [hW.block _ (Array.getElem?_eq_some_iff.1 ST.out.trk).1]; exact ST.out.trk
            have TK := Fact.mk tk
            have z0 := cell_of_row W (W1.heap.size + 1) 4 _ _ _ tk
            have z1 := cell_of_row W (W1.heap.size + 1) 5 _ _ _ tk
            clear hW tk
            simp only [List.take_succ_cons, List.take_zero, List.drop_succ_cons, List.drop_zero]
            repeat still_step
            refine wpStill_nil ?_
            go_wp2_with fail
            refine (lrun_new ST2.out RUN.out OUT.out (by decide)).mono ?_
            rintro e W4 ⟨v2, rfl, rd2, k4, g4, -⟩
            obtain ⟨y0, y1, y2, rfl, yc0, yc1⟩ := rd2.two64
            rw [show truthI false = 0 from rfl] at yc1
            have bw : Below w.heap.size w W := ST.out.bel.trans (HW.out.mono ST.out.bel.size)
            have ST4 : Fact (TurnSt w W4 W1.heap.size 2 0 false (k + 1)) := ⟨⟨k4, grown_other g4 TK.out (by omega), bw.trans (grown_Below g4 bw.size lV), lV, by omega, by omega, by omega⟩⟩
            clear g4 k4 rd2 bw z0 z1 ci1
            go_wp2_with fail
            go_roundw
            case rel => exact ⟨k + 1, 2, 0, false, by omega, by omega, by go_num, rfl, rfl, rfl, ST4⟩
            case measure => simp [intOf]; omega
          · have ci1 := CI.out
            have hrun := run_dk (w0 := tr0 2) (w1 := tr1 2) (ran := true) (q := lp) (cv := want) (by omega) (by omega) true true false
            have hrun2 : runB (dkB (tr0 2) (tr1 2) true want lp) [1, 1, 0] 0 = (dkB (tr0 2) (tr1 2) true want lp, 0) := by
              rw [show ([1, 1, 0] : List Int) = [truthI true, truthI true, truthI false] from rfl, hrun]
              have e1 : cvD want false true (turnOf true true (tr0 2) (tr1 2)) = want := by show _ = want; rfl
              have e2 : qD lp false true (turnOf true true (tr0 2) (tr1 2)) = lp := rfl
              rw [e1, e2]; rfl
            have houts : outsB (dkB (tr0 2) (tr1 2) true want lp) = [want, truthI lp] := outs_dk (by omega) (by omega)
            have RUN := Fact.mk hrun2
            have OUT := Fact.mk houts
            clear hrun hrun2 houts
            go_wp2_with fail
            refine still_tail 9 (by kernel_rfl) (by kernel_rfl) (fun W => Below wr.heap.size wr W) (below_dn wr 1) ?_
            intro W hW
            have HW := Fact.mk hW
            have ST2 : Fact (BlkAt W W1.heap.size (dkB (tr0 2) (tr1 2) true want lp)) := ⟨ST.out.blk.below hW⟩
            have tk : W.heap[W1.heap.size + 1]? = some (.cells #[.int .i64 0, .int .i64 0, .int .i64 1, .int .i64 0, .int .i64 1, .int .i64 1, .int .i64 0, .int .i64 1] 52 (0, 0)) := by rw [hW.block _ (Array.getElem?_eq_some_iff.1 ST.out.trk).1]; exact ST.out.trk
            have TK := Fact.mk tk
            have z0 := cell_of_row W (W1.heap.size + 1) 4 _ _ _ tk
            have z1 := cell_of_row W (W1.heap.size + 1) 5 _ _ _ tk
            clear hW tk
            simp only [List.take_succ_cons, List.take_zero, List.drop_succ_cons, List.drop_zero]
            repeat still_step
            refine wpStill_nil ?_
            go_wp2_with fail
            refine (lrun_new ST2.out RUN.out OUT.out (by decide)).mono ?_
            rintro e W4 ⟨v2, rfl, rd2, k4, g4, -⟩
            obtain ⟨y0, y1, y2, rfl, yc0, yc1⟩ := rd2.two64
            have bw : Below w.heap.size w W := ST.out.bel.trans (HW.out.mono ST.out.bel.size)
            have ST4 : Fact (TurnSt w W4 W1.heap.size 2 want lp (k + 1)) := ⟨⟨k4, grown_other g4 TK.out (by omega), bw.trans (grown_Below g4 bw.size lV), lV, by omega, by omega, by omega⟩⟩
            clear g4 k4 rd2 bw z0 z1 ci1
            go_wp2_with fail
            go_roundw
            case rel => exact ⟨k + 1, 2, want, lp, by omega, by omega, by go_num, rfl, rfl, rfl, ST4⟩
            case measure => simp [intOf]; omega
        · have ST := hst
          clear hst ci
          rcases (by omega : (x % 16 < 6) ∨ (6 ≤ x % 16 ∧ x % 16 < 12) ∨ (x % 16 = 12) ∨ (x % 16 = 13) ∨ (14 ≤ x % 16 ∧ x % 16 < 16)) with hc | hc | hc | hc | hc
          · have ci1 := CI.out
            have hrun := run_dk (w0 := tr0 3) (w1 := tr1 3) (ran := true) (q := lp) (cv := want) (by omega) (by omega) false false false
            have hrun2 : runB (dkB (tr0 3) (tr1 3) true want lp) [0, 0, 0] 0 = (dkB (tr0 0) (tr1 0) true (want + 1) lp, 0) := by
              rw [show ([0, 0, 0] : List Int) = [truthI false, truthI false, truthI false] from rfl, hrun]
              have e1 : cvD want false true (turnOf false false (tr0 3) (tr1 3)) = (want + 1) := by show _ = (want + 1); exact (show min (want + 1) 2147483647 = want + 1 by omega)
              have e2 : qD lp false true (turnOf false false (tr0 3) (tr1 3)) = lp := rfl
              rw [e1, e2]; rfl
            have houts : outsB (dkB (tr0 0) (tr1 0) true (want + 1) lp) = [(want + 1), truthI lp] := outs_dk (by omega) (by omega)
            have RUN := Fact.mk hrun2
            have OUT := Fact.mk houts
            clear hrun hrun2 houts
            go_wp2_with fail
            refine still_tail 9 (by kernel_rfl) (by kernel_rfl) (fun W => Below wr.heap.size wr W) (below_dn wr 1) ?_
            intro W hW
            have HW := Fact.mk hW
            have ST2 : Fact (BlkAt W W1.heap.size (dkB (tr0 3) (tr1 3) true want lp)) := ⟨ST.out.blk.below hW⟩
            have tk : W.heap[W1.heap.size + 1]? = some (.cells #[.int .i64 0, .int .i64 0, .int .i64 1, .int .i64 0, .int .i64 1, .int .i64 1, .int .i64 0, .int .i64 1] 52 (0, 0)) := by rw [hW.block _ (Array.getElem?_eq_some_iff.1 ST.out.trk).1]; exact ST.out.trk
            have TK := Fact.mk tk
            have z0 := cell_of_row W (W1.heap.size + 1) 0 _ _ _ tk
            have z1 := cell_of_row W (W1.heap.size + 1) 1 _ _ _ tk
            clear hW tk
            simp only [List.take_succ_cons, List.take_zero, List.drop_succ_cons, List.drop_zero]
            repeat still_step
            refine wpStill_nil ?_
            go_wp2_with fail
            refine (lrun_new ST2.out RUN.out OUT.out (by decide)).mono ?_
            rintro e W4 ⟨v2, rfl, rd2, k4, g4, -⟩
            obtain ⟨y0, y1, y2, rfl, yc0, yc1⟩ := rd2.two64
            have bw : Below w.heap.size w W := ST.out.bel.trans (HW.out.mono ST.out.bel.size)
            have ST4 : Fact (TurnSt w W4 W1.heap.size 0 (want + 1) lp (k + 1)) := ⟨⟨k4, grown_other g4 TK.out (by omega), bw.trans (grown_Below g4 bw.size lV), lV, by omega, by omega, by omega⟩⟩
            clear g4 k4 rd2 bw z0 z1 ci1
            go_wp2_with fail
            go_roundw
            case rel => exact ⟨k + 1, 0, (want + 1), lp, by omega, by omega, by go_num, rfl, rfl, rfl, ST4⟩
            case measure => simp [intOf]; omega
          · have ci1 := CI.out
            have hrun := run_dk (w0 := tr0 3) (w1 := tr1 3) (ran := true) (q := lp) (cv := want) (by omega) (by omega) true true false
            have hrun2 : runB (dkB (tr0 3) (tr1 3) true want lp) [1, 1, 0] 0 = (dkB (tr0 2) (tr1 2) true (want - 1) lp, 0) := by
              rw [show ([1, 1, 0] : List Int) = [truthI true, truthI true, truthI false] from rfl, hrun]
              have e1 : cvD want false true (turnOf true true (tr0 3) (tr1 3)) = (want - 1) := by show _ = (want - 1); exact (show max (want - 1) (-2147483648) = want - 1 by omega)
              have e2 : qD lp false true (turnOf true true (tr0 3) (tr1 3)) = lp := rfl
              rw [e1, e2]; rfl
            have houts : outsB (dkB (tr0 2) (tr1 2) true (want - 1) lp) = [(want - 1), truthI lp] := outs_dk (by omega) (by omega)
            have RUN := Fact.mk hrun2
            have OUT := Fact.mk houts
            clear hrun hrun2 houts
            go_wp2_with fail
            refine still_tail 9 (by kernel_rfl) (by kernel_rfl) (fun W => Below wr.heap.size wr W) (below_dn wr 1) ?_
            intro W hW
            have HW := Fact.mk hW
            have ST2 : Fact (BlkAt W W1.heap.size (dkB (tr0 3) (tr1 3) true want lp)) := ⟨ST.out.blk.below hW⟩
            have tk : W.heap[W1.heap.size + 1]? = some (.cells #[.int .i64 0, .int .i64 0, .int .i64 1, .int .i64 0, .int .i64 1, .int .i64 1, .int .i64 0, .int .i64 1] 52 (0, 0)) := by rw [hW.block _ (Array.getElem?_eq_some_iff.1 ST.out.trk).1]; exact ST.out.trk
            have TK := Fact.mk tk
            have z0 := cell_of_row W (W1.heap.size + 1) 4 _ _ _ tk
            have z1 := cell_of_row W (W1.heap.size + 1) 5 _ _ _ tk
            clear hW tk
            simp only [List.take_succ_cons, List.take_zero, List.drop_succ_cons, List.drop_zero]
            repeat still_step
            refine wpStill_nil ?_
            go_wp2_with fail
            refine (lrun_new ST2.out RUN.out OUT.out (by decide)).mono ?_
            rintro e W4 ⟨v2, rfl, rd2, k4, g4, -⟩
            obtain ⟨y0, y1, y2, rfl, yc0, yc1⟩ := rd2.two64
            have bw : Below w.heap.size w W := ST.out.bel.trans (HW.out.mono ST.out.bel.size)
            have ST4 : Fact (TurnSt w W4 W1.heap.size 2 (want - 1) lp (k + 1)) := ⟨⟨k4, grown_other g4 TK.out (by omega), bw.trans (grown_Below g4 bw.size lV), lV, by omega, by omega, by omega⟩⟩
            clear g4 k4 rd2 bw z0 z1 ci1
            go_wp2_with fail
            go_roundw
            case rel => exact ⟨k + 1, 2, (want - 1), lp, by omega, by omega, by go_num, rfl, rfl, rfl, ST4⟩
            case measure => simp [intOf]; omega
          · have ci1 := CI.out
            have hrun := run_dk (w0 := tr0 3) (w1 := tr1 3) (ran := true) (q := lp) (cv := want) (by omega) (by omega) true false false
            have hrun2 : runB (dkB (tr0 3) (tr1 3) true want lp) [1, 0, 0] 0 = (dkB (tr0 1) (tr1 1) true want true, 0) := by
              rw [show ([1, 0, 0] : List Int) = [truthI true, truthI false, truthI false] from rfl, hrun]
              have e1 : cvD want false true (turnOf true false (tr0 3) (tr1 3)) = want := by show _ = want; rfl
              have e2 : qD lp false true (turnOf true false (tr0 3) (tr1 3)) = true := rfl
              rw [e1, e2]; rfl
            have houts : outsB (dkB (tr0 1) (tr1 1) true want true) = [want, truthI true] := outs_dk (by omega) (by omega)
            have RUN := Fact.mk hrun2
            have OUT := Fact.mk houts
            clear hrun hrun2 houts
            go_wp2_with fail
            refine still_tail 9 (by kernel_rfl) (by kernel_rfl) (fun W => Below wr.heap.size wr W) (below_dn wr 1) ?_
            intro W hW
            have HW := Fact.mk hW
            have ST2 : Fact (BlkAt W W1.heap.size (dkB (tr0 3) (tr1 3) true want lp)) := ⟨ST.out.blk.below hW⟩
            have tk : W.heap[W1.heap.size + 1]? = some (.cells #[.int .i64 0, .int .i64 0, .int .i64 1, .int .i64 0, .int .i64 1, .int .i64 1, .int .i64 0, .int .i64 1] 52 (0, 0)) := by rw [hW.block _ (Array.getElem?_eq_some_iff.1 ST.out.trk).1]; exact ST.out.trk
            have TK := Fact.mk tk
            have z0 := cell_of_row W (W1.heap.size + 1) 2 _ _ _ tk
            have z1 := cell_of_row W (W1.heap.size + 1) 3 _ _ _ tk
            clear hW tk
            simp only [List.take_succ_cons, List.take_zero, List.drop_succ_cons, List.drop_zero]
            repeat still_step
            refine wpStill_nil ?_
            go_wp2_with fail
            refine (lrun_new ST2.out RUN.out OUT.out (by decide)).mono ?_
            rintro e W4 ⟨v2, rfl, rd2, k4, g4, -⟩
            obtain ⟨y0, y1, y2, rfl, yc0, yc1⟩ := rd2.two64
            rw [show truthI true = 1 from rfl] at yc1
            have bw : Below w.heap.size w W := ST.out.bel.trans (HW.out.mono ST.out.bel.size)
            have ST4 : Fact (TurnSt w W4 W1.heap.size 1 want true (k + 1)) := ⟨⟨k4, grown_other g4 TK.out (by omega), bw.trans (grown_Below g4 bw.size lV), lV, by omega, by omega, by omega⟩⟩
            clear g4 k4 rd2 bw z0 z1 ci1
            go_wp2_with fail
            go_roundw
            case rel => exact ⟨k + 1, 1, want, true, by omega, by omega, by go_num, rfl, rfl, rfl, ST4⟩
            case measure => simp [intOf]; omega
          · have ci1 := CI.out
            have hrun := run_dk (w0 := tr0 3) (w1 := tr1 3) (ran := true) (q := lp) (cv := want) (by omega) (by omega) false true true
            have hrun2 : runB (dkB (tr0 3) (tr1 3) true want lp) [0, 1, 1] 0 = (dkB (tr0 3) (tr1 3) true 0 false, 0) := by
              rw [show ([0, 1, 1] : List Int) = [truthI false, truthI true, truthI true] from rfl, hrun]
              have e1 : cvD want true true (turnOf false true (tr0 3) (tr1 3)) = 0 := by show _ = 0; rfl
              have e2 : qD lp true true (turnOf false true (tr0 3) (tr1 3)) = false := rfl
              rw [e1, e2]; rfl
            have houts : outsB (dkB (tr0 3) (tr1 3) true 0 false) = [0, truthI false] := outs_dk (by omega) (by omega)
            have RUN := Fact.mk hrun2
            have OUT := Fact.mk houts
            clear hrun hrun2 houts
            go_wp2_with fail
            refine still_tail 9 (by kernel_rfl) (by kernel_rfl) (fun W => Below wr.heap.size wr W) (below_dn wr 1) ?_
            intro W hW
            have HW := Fact.mk hW
            have ST2 : Fact (BlkAt W W1.heap.size (dkB (tr0 3) (tr1 3) true want lp)) := ⟨ST.out.blk.below hW⟩
            have tk : W.heap[W1.heap.size + 1]? = some (.cells #[.int .i64 0, .int .i64 0, .int .i64 1, .int .i64 0, .int .i64 1, .int .i64 1, .int .i64 0, .int .i64 1] 52 (0, 0)) := by rw [hW.block _ (Array.getElem?_eq_some_iff.1 ST.out.trk).1]; exact ST.out.trk
            have TK := Fact.mk tk
            have z0 := cell_of_row W (W1.heap.size + 1) 6 _ _ _ tk
            have z1 := cell_of_row W (W1.heap.size + 1) 7 _ _ _ tk
            clear hW tk
            simp only [List.take_succ_cons, List.take_zero, List.drop_succ_cons, List.drop_zero]
            repeat still_step
            refine wpStill_nil ?_
            go_wp2_with fail
            refine (lrun_new ST2.out RUN.out OUT.out (by decide)).mono ?_
            rintro e W4 ⟨v2, rfl, rd2, k4, g4, -⟩
            obtain ⟨y0, y1, y2, rfl, yc0, yc1⟩ := rd2.two64
            rw [show truthI false = 0 from rfl] at yc1
            have bw : Below w.heap.size w W := ST.out.bel.trans (HW.out.mono ST.out.bel.size)
            have ST4 : Fact (TurnSt w W4 W1.heap.size 3 0 false (k + 1)) := ⟨⟨k4, grown_other g4 TK.out (by omega), bw.trans (grown_Below g4 bw.size lV), lV, by omega, by omega, by omega⟩⟩
            clear g4 k4 rd2 bw z0 z1 ci1
            go_wp2_with fail
            go_roundw
            case rel => exact ⟨k + 1, 3, 0, false, by omega, by omega, by go_num, rfl, rfl, rfl, ST4⟩
            case measure => simp [intOf]; omega
          · have ci1 := CI.out
            have hrun := run_dk (w0 := tr0 3) (w1 := tr1 3) (ran := true) (q := lp) (cv := want) (by omega) (by omega) false true false
            have hrun2 : runB (dkB (tr0 3) (tr1 3) true want lp) [0, 1, 0] 0 = (dkB (tr0 3) (tr1 3) true want lp, 0) := by
              rw [show ([0, 1, 0] : List Int) = [truthI false, truthI true, truthI false] from rfl, hrun]
              have e1 : cvD want false true (turnOf false true (tr0 3) (tr1 3)) = want := by show _ = want; rfl
              have e2 : qD lp false true (turnOf false true (tr0 3) (tr1 3)) = lp := rfl
              rw [e1, e2]; rfl
            have houts : outsB (dkB (tr0 3) (tr1 3) true want lp) = [want, truthI lp] := outs_dk (by omega) (by omega)
            have RUN := Fact.mk hrun2
            have OUT := Fact.mk houts
            clear hrun hrun2 houts
            go_wp2_with fail
            refine still_tail 9 (by kernel_rfl) (by kernel_rfl) (fun W => Below wr.heap.size wr W) (below_dn wr 1) ?_
            intro W hW
            have HW := Fact.mk hW
            have ST2 : Fact (BlkAt W W1.heap.size (dkB (tr0 3) (tr1 3) true want lp)) := ⟨ST.out.blk.below hW⟩
            have tk : W.heap[W1.heap.size + 1]? = some (.cells #[.int .i64 0, .int .i64 0, .int .i64 1, .int .i64 0, .int .i64 1, .int .i64 1, .int .i64 0, .int .i64 1] 52 (0, 0)) := by rw [hW.block _ (Array.getElem?_eq_some_iff.1 ST.out.trk).1]; exact ST.out.trk
            have TK := Fact.mk tk
            have z0 := cell_of_row W (W1.heap.size + 1) 6 _ _ _ tk
            have z1 := cell_of_row W (W1.heap.size + 1) 7 _ _ _ tk
            clear hW tk
            simp only [List.take_succ_cons, List.take_zero, List.drop_succ_cons, List.drop_zero]
            repeat still_step
            refine wpStill_nil ?_
            go_wp2_with fail
            refine (lrun_new ST2.out RUN.out OUT.out (by decide)).mono ?_
            rintro e W4 ⟨v2, rfl, rd2, k4, g4, -⟩
            obtain ⟨y0, y1, y2, rfl, yc0, yc1⟩ := rd2.two64
            have bw : Below w.heap.size w W := ST.out.bel.trans (HW.out.mono ST.out.bel.size)
            have ST4 : Fact (TurnSt w W4 W1.heap.size 3 want lp (k + 1)) := ⟨⟨k4, grown_other g4 TK.out (by omega), bw.trans (grown_Below g4 bw.size lV), lV, by omega, by omega, by omega⟩⟩
            clear g4 k4 rd2 bw z0 z1 ci1
            go_wp2_with fail
            go_roundw
            case rel => exact ⟨k + 1, 3, want, lp, by omega, by omega, by go_num, rfl, rfl, rfl, ST4⟩
            case measure => simp [intOf]; omega
      · obtain rfl : k = 60 := by omega
        have i1 : ((60 : Nat) : Int) < (xs.length : Int) := by omega
        have HB := Fact.mk hst.out.bel
        clear hst
        go_wp2_with fail
        refine (awk _).mono ?_
        rintro e W5 ⟨rfl, hb5⟩
        have B5 := Fact.mk (HB.out.trans (hb5.mono HB.out.size))
        clear hb5
        go_wp2_with fail
        go_ret
        exact ⟨rfl, B5.out⟩
    · obtain rfl : k = xs.length := by omega
      have HB := Fact.mk hst.out.bel
      clear hst
      go_wp2_with fail
      refine (awk _).mono ?_
      rintro e W5 ⟨rfl, hb5⟩
      have B5 := Fact.mk (HB.out.trans (hb5.mono HB.out.size))
      clear hb5
      go_wp2_with fail
      go_ret
      exact ⟨rfl, B5.out⟩
end Go.Proofs.Ytjanofopmmndoaa
