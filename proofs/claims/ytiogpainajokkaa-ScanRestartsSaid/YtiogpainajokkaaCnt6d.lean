/- The runner's counter, kind 6. -/
import Derived.Test.YtiogpainajokkaaCntM
namespace Go.Proofs.Ytiogpainajokkaa
open Go.RowKit
set_option maxRecDepth 100000 in
set_option maxHeartbeats 8000000 in
theorem counter_6ff (w : World) (R B : Nat) (ins : List Int) (now : Int) (rise fall : Bool) (b : GBlock) (pv : Int) (h : RunSt w R B ins now rise fall b) (hk : b.kind = 6) (hi : ins.length = 5) (hp : ins.getD 4 0 = pv) (hon2 : onB ins 2 = false) (hon3 : onB ins 3 = false) (v1 : -2147483648 ≤ b.cv) (v2 : b.cv ≤ 2147483647) :
    Calls Try.prog 158 #[.pointer (some ⟨R, 0, none⟩)] w (CntPost w R B ins now rise fall (counterB b rise ins pv)) := by
  have hmf : ∀ (fn : Fn) (first cap : Array Value) (w : World), (Instr.makeFunc fn first cap).run Try.prog w = .ok (.func fn first cap) w := fun _ _ _ _ => rfl
  have H := Fact.mk h
  obtain ⟨⟨vs, h1, h2, h3⟩, h4, h5⟩ := h
  obtain ⟨k, off, c, rfl, hc⟩ := h1.at64 4 (by omega)
  rw [hp] at hc
  have lt1 : k < w.heap.size := World.block_lt_of_cell? w _ hc
  have lt2 : R < w.heap.size := (Array.getElem?_eq_some_iff.1 h3).1
  have lt3 : B < w.heap.size := (Array.getElem?_eq_some_iff.1 h4).1
  obtain ⟨c0, c1, c2, c3, c4, -, -, -, -, -⟩ := row5 h3
  obtain ⟨d0, d1, d2, d3, d4, d5, d6, d7, d8, d9, g0, g1, g2, g3, g4, g5, g6, g7, g8, g9⟩ := row10 h4
  rw [hk] at d0
  rw [hi] at c1
  have HK := Fact.mk hk
  clear h1 h2 h3 h4 hp hk
  have ON2 := on_lit (R := R) (B := B) (now := now) (rise := rise) (fall := fall) (b := b) 2 (by omega) false hon2
  have HON2 := Fact.mk hon2
  clear hon2
  have ON3 := on_lit (R := R) (B := B) (now := now) (rise := rise) (fall := fall) (b := b) 3 (by omega) false hon3
  have HON3 := Fact.mk hon3
  clear hon3
  cases hon1 : onB ins 1 with
  | true =>
    have ON1 := on_lit (R := R) (B := B) (now := now) (rise := rise) (fall := fall) (b := b) 1 (by omega) true hon1
    have HON1 := Fact.mk hon1
    clear hon1
    cases rise with
    | true =>
      cases hw : b.w1 with
      | true =>
        rw [hw] at d2
        have HW := Fact.mk hw
        clear hw
        go_enter Try.func158, Try.ntmps158
        go_wp2_with fail
        go_quiet (fail)
        go_wp2_with fail
        go_quiet (fail)
        go_wp2_with (go_at_call 159; refine (ON1 _ ((H.out.alloc _).drewN _)).mono ?_; rintro e w' ⟨rfl, rfl⟩)
        refine still_tail 6 (by kernel_rfl) (by kernel_rfl) (fun W => RunSt W R B ins now true fall b ∧ W.heap[w.heap.size]? = some (.cells #[.pointer (some ⟨B, 0, none⟩)] 235 (0, 0)) ∧ w.grownBy W (some B)) ⟨((H.out.alloc _).drewN _).drew, var_at _ _ _ 0, grown_trans (World.grownBy_alloc _ _ _) (grown_trans (grown_drewN _ _ _) (grown_drew _ _))⟩ ?_
        rintro W ⟨hW, hV, hgW⟩
        have HW1 := Fact.mk hW
        have GW := Fact.mk hgW
        have x2 := cell_of_row W _ 0 _ _ _ hV
        clear c0 c1 c2 c3 c4 d0 d1 d2 d3 d4 d5 d6 d7 d8 d9 g0 g1 g2 g3 g4 g5 g6 g7 g8 g9
        obtain ⟨vs2, c0, c1, c2, c3, c4, d0, d1, d2, d3, d4, d5, d6, d7, d8, d9, g0, g1, g2, g3, g4, g5, g6, g7, g8, g9⟩ := hW.facts
        rw [HK.out] at d0
        rw [HW.out] at d2
        have HW2 := Fact.mk (hW.next (grown_set W B 2 (.bool true)) (b' := { b with w1 := true }) (set10_2 hW.blk))
        clear hW hgW
        simp only [List.take_succ_cons, List.take_zero, List.drop_succ_cons, List.drop_zero]
        repeat still_step
        still_call (ON1 _ HW1.out)
        repeat still_step
        refine wpStill_nil ?_
        have ON2' := on_lit (R := R) (B := B) (now := now) (rise := true) (fall := fall) (b := { b with w1 := true }) 2 (by omega) false HON2.out
        have ON3' := on_lit (R := R) (B := B) (now := now) (rise := true) (fall := fall) (b := { b with w1 := true }) 3 (by omega) false HON3.out
        clear ON1 ON2 ON3
        have hVB : ¬ w.heap.size = B := Nat.ne_of_gt lt3
        go_wp2_with fail
        refine (ON2' _ HW2.out).mono ?_
        rintro e w' ⟨rfl, rfl⟩
        go_wp2_with fail
        refine (ON3' _ HW2.out).mono ?_
        rintro e w' ⟨rfl, rfl⟩
        go_wp2_with fail
        refine (step_any _ w.heap.size B { b with w1 := true } 1 (by first | exact hV | exact (grown_other (grown_set W B 2 (.bool true)) hV hVB)) HW2.out.blk v1 v2 (by omega) (by omega)).mono ?_
        rintro e w2 ⟨rfl, gr, hb2⟩
        clear d0 d1 d2 d3 d4 d5 d6 d7 d8 d9 g0 g1 g2 g3 g4 g5 g6 g7 g8 g9 x2
        have x2 := cell_of_row w2 _ 0 _ _ _ (grown_other gr (grown_other (grown_set W B 2 (.bool true)) hV hVB) hVB)
        obtain ⟨d0, d1, d2, d3, d4, d5, d6, d7, d8, d9, g0, g1, g2, g3, g4, g5, g6, g7, g8, g9⟩ := row10 hb2
        have d0' : w2.cell? ⟨B, 0, none⟩ = some (.int .u8 6) := d0.trans (by rw [show ({ b with w1 := true } : GBlock).kind = 6 from HK.out])
        clear d0
        have GR := Fact.mk gr
        have HB2 := Fact.mk hb2
        clear gr hb2 hV ON2' ON3'
        go_wp2_with fail
        go_quiet (fail)
        go_wp2_with fail
        go_region
        all_goals go_wp2
        all_goals go_end0
        all_goals exact cnt_end HW2.out (grown_trans GW.out (grown_set W B 2 _)) (grown_trans GR.out (grown_trans (grown_drewN _ _ _) (grown_trans (grown_set _ B 8 _) (grown_set _ B 9 _)))) (b' := { b with w1 := true, cv := stepC b.cv 1, q := decide (pv ≤ stepC b.cv 1), p := decide (stepC b.cv 1 ≤ 0) }) (set10_9 (set10_8 HB2.out)) (by unfold counterB zeroC loadC upC downC cntC qC; simp [HK.out, HON1.out, HON2.out, HON3.out, HW.out])
      | false =>
        rw [hw] at d2
        have HW := Fact.mk hw
        clear hw
        go_enter Try.func158, Try.ntmps158
        go_wp2_with fail
        go_quiet (fail)
        go_wp2_with fail
        go_quiet (fail)
        go_wp2_with (go_at_call 159; refine (ON1 _ ((H.out.alloc _).drewN _)).mono ?_; rintro e w' ⟨rfl, rfl⟩)
        refine still_tail 6 (by kernel_rfl) (by kernel_rfl) (fun W => RunSt W R B ins now true fall b ∧ W.heap[w.heap.size]? = some (.cells #[.pointer (some ⟨B, 0, none⟩)] 235 (0, 0)) ∧ w.grownBy W (some B)) ⟨((H.out.alloc _).drewN _).drew, var_at _ _ _ 0, grown_trans (World.grownBy_alloc _ _ _) (grown_trans (grown_drewN _ _ _) (grown_drew _ _))⟩ ?_
        rintro W ⟨hW, hV, hgW⟩
        have HW1 := Fact.mk hW
        have GW := Fact.mk hgW
        have x2 := cell_of_row W _ 0 _ _ _ hV
        clear c0 c1 c2 c3 c4 d0 d1 d2 d3 d4 d5 d6 d7 d8 d9 g0 g1 g2 g3 g4 g5 g6 g7 g8 g9
        obtain ⟨vs2, c0, c1, c2, c3, c4, d0, d1, d2, d3, d4, d5, d6, d7, d8, d9, g0, g1, g2, g3, g4, g5, g6, g7, g8, g9⟩ := hW.facts
        rw [HK.out] at d0
        rw [HW.out] at d2
        have HW2 := Fact.mk (hW.next (grown_set W B 2 (.bool true)) (b' := { b with w1 := true }) (set10_2 hW.blk))
        clear hW hgW
        simp only [List.take_succ_cons, List.take_zero, List.drop_succ_cons, List.drop_zero]
        repeat still_step
        still_call (ON1 _ HW1.out)
        repeat still_step
        refine wpStill_nil ?_
        have ON2' := on_lit (R := R) (B := B) (now := now) (rise := true) (fall := fall) (b := { b with w1 := true }) 2 (by omega) false HON2.out
        have ON3' := on_lit (R := R) (B := B) (now := now) (rise := true) (fall := fall) (b := { b with w1 := true }) 3 (by omega) false HON3.out
        clear ON1 ON2 ON3
        have hVB : ¬ w.heap.size = B := Nat.ne_of_gt lt3
        go_wp2_with fail
        refine (ON2' _ HW2.out).mono ?_
        rintro e w' ⟨rfl, rfl⟩
        go_wp2_with fail
        refine (ON3' _ HW2.out).mono ?_
        rintro e w' ⟨rfl, rfl⟩
        go_wp2_with fail
        go_quiet (fail)
        go_wp2_with fail
        go_region
        all_goals go_wp2
        all_goals go_end0
        all_goals exact cnt_end HW2.out (grown_trans GW.out (grown_set W B 2 _)) (grown_trans (grown_drewN _ _ _) (grown_trans (grown_set _ B 8 _) (grown_set _ B 9 _))) (b' := { b with w1 := true, cv := b.cv, q := decide (pv ≤ b.cv), p := decide (b.cv ≤ 0) }) (set10_9 (set10_8 HW2.out.blk)) (by unfold counterB zeroC loadC upC downC cntC qC; simp [HK.out, HON1.out, HON2.out, HON3.out, HW.out])
    | false =>
      cases hw : b.w1 with
      | true =>
        rw [hw] at d2
        have HW := Fact.mk hw
        clear hw
        go_enter Try.func158, Try.ntmps158
        go_wp2_with fail
        go_quiet (fail)
        go_wp2_with fail
        go_quiet (fail)
        go_wp2_with (go_at_call 159; refine (ON1 _ ((H.out.alloc _).drewN _)).mono ?_; rintro e w' ⟨rfl, rfl⟩)
        refine still_tail 6 (by kernel_rfl) (by kernel_rfl) (fun W => RunSt W R B ins now false fall b ∧ W.heap[w.heap.size]? = some (.cells #[.pointer (some ⟨B, 0, none⟩)] 235 (0, 0)) ∧ w.grownBy W (some B)) ⟨((H.out.alloc _).drewN _).drew, var_at _ _ _ 0, grown_trans (World.grownBy_alloc _ _ _) (grown_trans (grown_drewN _ _ _) (grown_drew _ _))⟩ ?_
        rintro W ⟨hW, hV, hgW⟩
        have HW1 := Fact.mk hW
        have GW := Fact.mk hgW
        have x2 := cell_of_row W _ 0 _ _ _ hV
        clear c0 c1 c2 c3 c4 d0 d1 d2 d3 d4 d5 d6 d7 d8 d9 g0 g1 g2 g3 g4 g5 g6 g7 g8 g9
        obtain ⟨vs2, c0, c1, c2, c3, c4, d0, d1, d2, d3, d4, d5, d6, d7, d8, d9, g0, g1, g2, g3, g4, g5, g6, g7, g8, g9⟩ := hW.facts
        rw [HK.out] at d0
        rw [HW.out] at d2
        have HW2 := Fact.mk (hW.next (grown_set W B 2 (.bool true)) (b' := { b with w1 := true }) (set10_2 hW.blk))
        clear hW hgW
        simp only [List.take_succ_cons, List.take_zero, List.drop_succ_cons, List.drop_zero]
        repeat still_step
        still_call (ON1 _ HW1.out)
        repeat still_step
        refine wpStill_nil ?_
        have ON2' := on_lit (R := R) (B := B) (now := now) (rise := false) (fall := fall) (b := { b with w1 := true }) 2 (by omega) false HON2.out
        have ON3' := on_lit (R := R) (B := B) (now := now) (rise := false) (fall := fall) (b := { b with w1 := true }) 3 (by omega) false HON3.out
        clear ON1 ON2 ON3
        have hVB : ¬ w.heap.size = B := Nat.ne_of_gt lt3
        go_wp2_with fail
        refine (ON2' _ HW2.out).mono ?_
        rintro e w' ⟨rfl, rfl⟩
        go_wp2_with fail
        refine (ON3' _ HW2.out).mono ?_
        rintro e w' ⟨rfl, rfl⟩
        go_wp2_with fail
        go_quiet (fail)
        go_wp2_with fail
        go_region
        all_goals go_wp2
        all_goals go_end0
        all_goals exact cnt_end HW2.out (grown_trans GW.out (grown_set W B 2 _)) (grown_trans (grown_drewN _ _ _) (grown_trans (grown_set _ B 8 _) (grown_set _ B 9 _))) (b' := { b with w1 := true, cv := b.cv, q := decide (pv ≤ b.cv), p := decide (b.cv ≤ 0) }) (set10_9 (set10_8 HW2.out.blk)) (by unfold counterB zeroC loadC upC downC cntC qC; simp [HK.out, HON1.out, HON2.out, HON3.out, HW.out])
      | false =>
        rw [hw] at d2
        have HW := Fact.mk hw
        clear hw
        go_enter Try.func158, Try.ntmps158
        go_wp2_with fail
        go_quiet (fail)
        go_wp2_with fail
        go_quiet (fail)
        go_wp2_with (go_at_call 159; refine (ON1 _ ((H.out.alloc _).drewN _)).mono ?_; rintro e w' ⟨rfl, rfl⟩)
        refine still_tail 6 (by kernel_rfl) (by kernel_rfl) (fun W => RunSt W R B ins now false fall b ∧ W.heap[w.heap.size]? = some (.cells #[.pointer (some ⟨B, 0, none⟩)] 235 (0, 0)) ∧ w.grownBy W (some B)) ⟨((H.out.alloc _).drewN _).drew, var_at _ _ _ 0, grown_trans (World.grownBy_alloc _ _ _) (grown_trans (grown_drewN _ _ _) (grown_drew _ _))⟩ ?_
        rintro W ⟨hW, hV, hgW⟩
        have HW1 := Fact.mk hW
        have GW := Fact.mk hgW
        have x2 := cell_of_row W _ 0 _ _ _ hV
        clear c0 c1 c2 c3 c4 d0 d1 d2 d3 d4 d5 d6 d7 d8 d9 g0 g1 g2 g3 g4 g5 g6 g7 g8 g9
        obtain ⟨vs2, c0, c1, c2, c3, c4, d0, d1, d2, d3, d4, d5, d6, d7, d8, d9, g0, g1, g2, g3, g4, g5, g6, g7, g8, g9⟩ := hW.facts
        rw [HK.out] at d0
        rw [HW.out] at d2
        have HW2 := Fact.mk (hW.next (grown_set W B 2 (.bool true)) (b' := { b with w1 := true }) (set10_2 hW.blk))
        clear hW hgW
        simp only [List.take_succ_cons, List.take_zero, List.drop_succ_cons, List.drop_zero]
        repeat still_step
        still_call (ON1 _ HW1.out)
        repeat still_step
        refine wpStill_nil ?_
        have ON2' := on_lit (R := R) (B := B) (now := now) (rise := false) (fall := fall) (b := { b with w1 := true }) 2 (by omega) false HON2.out
        have ON3' := on_lit (R := R) (B := B) (now := now) (rise := false) (fall := fall) (b := { b with w1 := true }) 3 (by omega) false HON3.out
        clear ON1 ON2 ON3
        have hVB : ¬ w.heap.size = B := Nat.ne_of_gt lt3
        go_wp2_with fail
        refine (ON2' _ HW2.out).mono ?_
        rintro e w' ⟨rfl, rfl⟩
        go_wp2_with fail
        refine (ON3' _ HW2.out).mono ?_
        rintro e w' ⟨rfl, rfl⟩
        go_wp2_with fail
        refine (step_any _ w.heap.size B { b with w1 := true } (-1) (by first | exact hV | exact (grown_other (grown_set W B 2 (.bool true)) hV hVB)) HW2.out.blk v1 v2 (by omega) (by omega)).mono ?_
        rintro e w2 ⟨rfl, gr, hb2⟩
        clear d0 d1 d2 d3 d4 d5 d6 d7 d8 d9 g0 g1 g2 g3 g4 g5 g6 g7 g8 g9 x2
        have x2 := cell_of_row w2 _ 0 _ _ _ (grown_other gr (grown_other (grown_set W B 2 (.bool true)) hV hVB) hVB)
        obtain ⟨d0, d1, d2, d3, d4, d5, d6, d7, d8, d9, g0, g1, g2, g3, g4, g5, g6, g7, g8, g9⟩ := row10 hb2
        have d0' : w2.cell? ⟨B, 0, none⟩ = some (.int .u8 6) := d0.trans (by rw [show ({ b with w1 := true } : GBlock).kind = 6 from HK.out])
        clear d0
        have GR := Fact.mk gr
        have HB2 := Fact.mk hb2
        clear gr hb2 hV ON2' ON3'
        go_wp2_with fail
        go_quiet (fail)
        go_wp2_with fail
        go_region
        all_goals go_wp2
        all_goals go_end0
        all_goals exact cnt_end HW2.out (grown_trans GW.out (grown_set W B 2 _)) (grown_trans GR.out (grown_trans (grown_drewN _ _ _) (grown_trans (grown_set _ B 8 _) (grown_set _ B 9 _)))) (b' := { b with w1 := true, cv := stepC b.cv (-1), q := decide (pv ≤ stepC b.cv (-1)), p := decide (stepC b.cv (-1) ≤ 0) }) (set10_9 (set10_8 HB2.out)) (by unfold counterB zeroC loadC upC downC cntC qC; simp [HK.out, HON1.out, HON2.out, HON3.out, HW.out])
  | false =>
    have ON1 := on_lit (R := R) (B := B) (now := now) (rise := rise) (fall := fall) (b := b) 1 (by omega) false hon1
    have HON1 := Fact.mk hon1
    clear hon1
    cases rise with
    | true =>
      cases hw : b.w1 with
      | true =>
        rw [hw] at d2
        have HW := Fact.mk hw
        clear hw
        go_enter Try.func158, Try.ntmps158
        go_wp2_with fail
        go_quiet (fail)
        go_wp2_with fail
        go_quiet (fail)
        go_wp2_with (go_at_call 159; refine (ON1 _ ((H.out.alloc _).drewN _)).mono ?_; rintro e w' ⟨rfl, rfl⟩)
        refine still_tail 6 (by kernel_rfl) (by kernel_rfl) (fun W => RunSt W R B ins now true fall b ∧ W.heap[w.heap.size]? = some (.cells #[.pointer (some ⟨B, 0, none⟩)] 235 (0, 0)) ∧ w.grownBy W (some B)) ⟨((H.out.alloc _).drewN _).drew, var_at _ _ _ 0, grown_trans (World.grownBy_alloc _ _ _) (grown_trans (grown_drewN _ _ _) (grown_drew _ _))⟩ ?_
        rintro W ⟨hW, hV, hgW⟩
        have HW1 := Fact.mk hW
        have GW := Fact.mk hgW
        have x2 := cell_of_row W _ 0 _ _ _ hV
        clear c0 c1 c2 c3 c4 d0 d1 d2 d3 d4 d5 d6 d7 d8 d9 g0 g1 g2 g3 g4 g5 g6 g7 g8 g9
        obtain ⟨vs2, c0, c1, c2, c3, c4, d0, d1, d2, d3, d4, d5, d6, d7, d8, d9, g0, g1, g2, g3, g4, g5, g6, g7, g8, g9⟩ := hW.facts
        rw [HK.out] at d0
        rw [HW.out] at d2
        have HW2 := Fact.mk (hW.next (grown_set W B 2 (.bool false)) (b' := { b with w1 := false }) (set10_2 hW.blk))
        clear hW hgW
        simp only [List.take_succ_cons, List.take_zero, List.drop_succ_cons, List.drop_zero]
        repeat still_step
        still_call (ON1 _ HW1.out)
        repeat still_step
        refine wpStill_nil ?_
        have ON2' := on_lit (R := R) (B := B) (now := now) (rise := true) (fall := fall) (b := { b with w1 := false }) 2 (by omega) false HON2.out
        have ON3' := on_lit (R := R) (B := B) (now := now) (rise := true) (fall := fall) (b := { b with w1 := false }) 3 (by omega) false HON3.out
        clear ON1 ON2 ON3
        have hVB : ¬ w.heap.size = B := Nat.ne_of_gt lt3
        go_wp2_with fail
        refine (ON2' _ HW2.out).mono ?_
        rintro e w' ⟨rfl, rfl⟩
        go_wp2_with fail
        refine (ON3' _ HW2.out).mono ?_
        rintro e w' ⟨rfl, rfl⟩
        go_wp2_with fail
        refine (step_any _ w.heap.size B { b with w1 := false } 1 (by first | exact hV | exact (grown_other (grown_set W B 2 (.bool false)) hV hVB)) HW2.out.blk v1 v2 (by omega) (by omega)).mono ?_
        rintro e w2 ⟨rfl, gr, hb2⟩
        clear d0 d1 d2 d3 d4 d5 d6 d7 d8 d9 g0 g1 g2 g3 g4 g5 g6 g7 g8 g9 x2
        have x2 := cell_of_row w2 _ 0 _ _ _ (grown_other gr (grown_other (grown_set W B 2 (.bool false)) hV hVB) hVB)
        obtain ⟨d0, d1, d2, d3, d4, d5, d6, d7, d8, d9, g0, g1, g2, g3, g4, g5, g6, g7, g8, g9⟩ := row10 hb2
        have d0' : w2.cell? ⟨B, 0, none⟩ = some (.int .u8 6) := d0.trans (by rw [show ({ b with w1 := false } : GBlock).kind = 6 from HK.out])
        clear d0
        have GR := Fact.mk gr
        have HB2 := Fact.mk hb2
        clear gr hb2 hV ON2' ON3'
        go_wp2_with fail
        go_quiet (fail)
        go_wp2_with fail
        go_region
        all_goals go_wp2
        all_goals go_end0
        all_goals exact cnt_end HW2.out (grown_trans GW.out (grown_set W B 2 _)) (grown_trans GR.out (grown_trans (grown_drewN _ _ _) (grown_trans (grown_set _ B 8 _) (grown_set _ B 9 _)))) (b' := { b with w1 := false, cv := stepC b.cv 1, q := decide (pv ≤ stepC b.cv 1), p := decide (stepC b.cv 1 ≤ 0) }) (set10_9 (set10_8 HB2.out)) (by unfold counterB zeroC loadC upC downC cntC qC; simp [HK.out, HON1.out, HON2.out, HON3.out])
      | false =>
        rw [hw] at d2
        have HW := Fact.mk hw
        clear hw
        go_enter Try.func158, Try.ntmps158
        go_wp2_with fail
        go_quiet (fail)
        go_wp2_with fail
        go_quiet (fail)
        go_wp2_with (go_at_call 159; refine (ON1 _ ((H.out.alloc _).drewN _)).mono ?_; rintro e w' ⟨rfl, rfl⟩)
        refine still_tail 6 (by kernel_rfl) (by kernel_rfl) (fun W => RunSt W R B ins now true fall b ∧ W.heap[w.heap.size]? = some (.cells #[.pointer (some ⟨B, 0, none⟩)] 235 (0, 0)) ∧ w.grownBy W (some B)) ⟨((H.out.alloc _).drewN _).drew, var_at _ _ _ 0, grown_trans (World.grownBy_alloc _ _ _) (grown_trans (grown_drewN _ _ _) (grown_drew _ _))⟩ ?_
        rintro W ⟨hW, hV, hgW⟩
        have HW1 := Fact.mk hW
        have GW := Fact.mk hgW
        have x2 := cell_of_row W _ 0 _ _ _ hV
        clear c0 c1 c2 c3 c4 d0 d1 d2 d3 d4 d5 d6 d7 d8 d9 g0 g1 g2 g3 g4 g5 g6 g7 g8 g9
        obtain ⟨vs2, c0, c1, c2, c3, c4, d0, d1, d2, d3, d4, d5, d6, d7, d8, d9, g0, g1, g2, g3, g4, g5, g6, g7, g8, g9⟩ := hW.facts
        rw [HK.out] at d0
        rw [HW.out] at d2
        have HW2 := Fact.mk (hW.next (grown_set W B 2 (.bool false)) (b' := { b with w1 := false }) (set10_2 hW.blk))
        clear hW hgW
        simp only [List.take_succ_cons, List.take_zero, List.drop_succ_cons, List.drop_zero]
        repeat still_step
        still_call (ON1 _ HW1.out)
        repeat still_step
        refine wpStill_nil ?_
        have ON2' := on_lit (R := R) (B := B) (now := now) (rise := true) (fall := fall) (b := { b with w1 := false }) 2 (by omega) false HON2.out
        have ON3' := on_lit (R := R) (B := B) (now := now) (rise := true) (fall := fall) (b := { b with w1 := false }) 3 (by omega) false HON3.out
        clear ON1 ON2 ON3
        have hVB : ¬ w.heap.size = B := Nat.ne_of_gt lt3
        go_wp2_with fail
        refine (ON2' _ HW2.out).mono ?_
        rintro e w' ⟨rfl, rfl⟩
        go_wp2_with fail
        refine (ON3' _ HW2.out).mono ?_
        rintro e w' ⟨rfl, rfl⟩
        go_wp2_with fail
        refine (step_any _ w.heap.size B { b with w1 := false } 1 (by first | exact hV | exact (grown_other (grown_set W B 2 (.bool false)) hV hVB)) HW2.out.blk v1 v2 (by omega) (by omega)).mono ?_
        rintro e w2 ⟨rfl, gr, hb2⟩
        clear d0 d1 d2 d3 d4 d5 d6 d7 d8 d9 g0 g1 g2 g3 g4 g5 g6 g7 g8 g9 x2
        have x2 := cell_of_row w2 _ 0 _ _ _ (grown_other gr (grown_other (grown_set W B 2 (.bool false)) hV hVB) hVB)
        obtain ⟨d0, d1, d2, d3, d4, d5, d6, d7, d8, d9, g0, g1, g2, g3, g4, g5, g6, g7, g8, g9⟩ := row10 hb2
        have d0' : w2.cell? ⟨B, 0, none⟩ = some (.int .u8 6) := d0.trans (by rw [show ({ b with w1 := false } : GBlock).kind = 6 from HK.out])
        clear d0
        have GR := Fact.mk gr
        have HB2 := Fact.mk hb2
        clear gr hb2 hV ON2' ON3'
        go_wp2_with fail
        go_quiet (fail)
        go_wp2_with fail
        go_region
        all_goals go_wp2
        all_goals go_end0
        all_goals exact cnt_end HW2.out (grown_trans GW.out (grown_set W B 2 _)) (grown_trans GR.out (grown_trans (grown_drewN _ _ _) (grown_trans (grown_set _ B 8 _) (grown_set _ B 9 _)))) (b' := { b with w1 := false, cv := stepC b.cv 1, q := decide (pv ≤ stepC b.cv 1), p := decide (stepC b.cv 1 ≤ 0) }) (set10_9 (set10_8 HB2.out)) (by unfold counterB zeroC loadC upC downC cntC qC; simp [HK.out, HON1.out, HON2.out, HON3.out])
    | false =>
      cases hw : b.w1 with
      | true =>
        rw [hw] at d2
        have HW := Fact.mk hw
        clear hw
        go_enter Try.func158, Try.ntmps158
        go_wp2_with fail
        go_quiet (fail)
        go_wp2_with fail
        go_quiet (fail)
        go_wp2_with (go_at_call 159; refine (ON1 _ ((H.out.alloc _).drewN _)).mono ?_; rintro e w' ⟨rfl, rfl⟩)
        refine still_tail 6 (by kernel_rfl) (by kernel_rfl) (fun W => RunSt W R B ins now false fall b ∧ W.heap[w.heap.size]? = some (.cells #[.pointer (some ⟨B, 0, none⟩)] 235 (0, 0)) ∧ w.grownBy W (some B)) ⟨((H.out.alloc _).drewN _).drew, var_at _ _ _ 0, grown_trans (World.grownBy_alloc _ _ _) (grown_trans (grown_drewN _ _ _) (grown_drew _ _))⟩ ?_
        rintro W ⟨hW, hV, hgW⟩
        have HW1 := Fact.mk hW
        have GW := Fact.mk hgW
        have x2 := cell_of_row W _ 0 _ _ _ hV
        clear c0 c1 c2 c3 c4 d0 d1 d2 d3 d4 d5 d6 d7 d8 d9 g0 g1 g2 g3 g4 g5 g6 g7 g8 g9
        obtain ⟨vs2, c0, c1, c2, c3, c4, d0, d1, d2, d3, d4, d5, d6, d7, d8, d9, g0, g1, g2, g3, g4, g5, g6, g7, g8, g9⟩ := hW.facts
        rw [HK.out] at d0
        rw [HW.out] at d2
        have HW2 := Fact.mk (hW.next (grown_set W B 2 (.bool false)) (b' := { b with w1 := false }) (set10_2 hW.blk))
        clear hW hgW
        simp only [List.take_succ_cons, List.take_zero, List.drop_succ_cons, List.drop_zero]
        repeat still_step
        still_call (ON1 _ HW1.out)
        repeat still_step
        refine wpStill_nil ?_
        have ON2' := on_lit (R := R) (B := B) (now := now) (rise := false) (fall := fall) (b := { b with w1 := false }) 2 (by omega) false HON2.out
        have ON3' := on_lit (R := R) (B := B) (now := now) (rise := false) (fall := fall) (b := { b with w1 := false }) 3 (by omega) false HON3.out
        clear ON1 ON2 ON3
        have hVB : ¬ w.heap.size = B := Nat.ne_of_gt lt3
        go_wp2_with fail
        refine (ON2' _ HW2.out).mono ?_
        rintro e w' ⟨rfl, rfl⟩
        go_wp2_with fail
        refine (ON3' _ HW2.out).mono ?_
        rintro e w' ⟨rfl, rfl⟩
        go_wp2_with fail
        go_quiet (fail)
        go_wp2_with fail
        go_region
        all_goals go_wp2
        all_goals go_end0
        all_goals exact cnt_end HW2.out (grown_trans GW.out (grown_set W B 2 _)) (grown_trans (grown_drewN _ _ _) (grown_trans (grown_set _ B 8 _) (grown_set _ B 9 _))) (b' := { b with w1 := false, cv := b.cv, q := decide (pv ≤ b.cv), p := decide (b.cv ≤ 0) }) (set10_9 (set10_8 HW2.out.blk)) (by unfold counterB zeroC loadC upC downC cntC qC; simp [HK.out, HON1.out, HON2.out, HON3.out])
      | false =>
        rw [hw] at d2
        have HW := Fact.mk hw
        clear hw
        go_enter Try.func158, Try.ntmps158
        go_wp2_with fail
        go_quiet (fail)
        go_wp2_with fail
        go_quiet (fail)
        go_wp2_with (go_at_call 159; refine (ON1 _ ((H.out.alloc _).drewN _)).mono ?_; rintro e w' ⟨rfl, rfl⟩)
        refine still_tail 6 (by kernel_rfl) (by kernel_rfl) (fun W => RunSt W R B ins now false fall b ∧ W.heap[w.heap.size]? = some (.cells #[.pointer (some ⟨B, 0, none⟩)] 235 (0, 0)) ∧ w.grownBy W (some B)) ⟨((H.out.alloc _).drewN _).drew, var_at _ _ _ 0, grown_trans (World.grownBy_alloc _ _ _) (grown_trans (grown_drewN _ _ _) (grown_drew _ _))⟩ ?_
        rintro W ⟨hW, hV, hgW⟩
        have HW1 := Fact.mk hW
        have GW := Fact.mk hgW
        have x2 := cell_of_row W _ 0 _ _ _ hV
        clear c0 c1 c2 c3 c4 d0 d1 d2 d3 d4 d5 d6 d7 d8 d9 g0 g1 g2 g3 g4 g5 g6 g7 g8 g9
        obtain ⟨vs2, c0, c1, c2, c3, c4, d0, d1, d2, d3, d4, d5, d6, d7, d8, d9, g0, g1, g2, g3, g4, g5, g6, g7, g8, g9⟩ := hW.facts
        rw [HK.out] at d0
        rw [HW.out] at d2
        have HW2 := Fact.mk (hW.next (grown_set W B 2 (.bool false)) (b' := { b with w1 := false }) (set10_2 hW.blk))
        clear hW hgW
        simp only [List.take_succ_cons, List.take_zero, List.drop_succ_cons, List.drop_zero]
        repeat still_step
        still_call (ON1 _ HW1.out)
        repeat still_step
        refine wpStill_nil ?_
        have ON2' := on_lit (R := R) (B := B) (now := now) (rise := false) (fall := fall) (b := { b with w1 := false }) 2 (by omega) false HON2.out
        have ON3' := on_lit (R := R) (B := B) (now := now) (rise := false) (fall := fall) (b := { b with w1 := false }) 3 (by omega) false HON3.out
        clear ON1 ON2 ON3
        have hVB : ¬ w.heap.size = B := Nat.ne_of_gt lt3
        go_wp2_with fail
        refine (ON2' _ HW2.out).mono ?_
        rintro e w' ⟨rfl, rfl⟩
        go_wp2_with fail
        refine (ON3' _ HW2.out).mono ?_
        rintro e w' ⟨rfl, rfl⟩
        go_wp2_with fail
        go_quiet (fail)
        go_wp2_with fail
        go_region
        all_goals go_wp2
        all_goals go_end0
        all_goals exact cnt_end HW2.out (grown_trans GW.out (grown_set W B 2 _)) (grown_trans (grown_drewN _ _ _) (grown_trans (grown_set _ B 8 _) (grown_set _ B 9 _))) (b' := { b with w1 := false, cv := b.cv, q := decide (pv ≤ b.cv), p := decide (b.cv ≤ 0) }) (set10_9 (set10_8 HW2.out.blk)) (by unfold counterB zeroC loadC upC downC cntC qC; simp [HK.out, HON1.out, HON2.out, HON3.out])
end Go.Proofs.Ytiogpainajokkaa

