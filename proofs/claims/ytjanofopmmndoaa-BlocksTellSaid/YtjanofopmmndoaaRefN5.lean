/- blockhouseref15.Run, kind 5. -/
import Derived.Test.YtjanofopmmndoaaRefS
import Derived.Test.YtjanofopmmndoaaRefR
import Derived.RegionTactic
namespace Go.Proofs.Ytjanofopmmndoaa
open Go.RowKit
set_option maxRecDepth 100000 in
set_option maxHeartbeats 8000000 in
theorem rrun_5 (b : GBlock) (ins : List Int) (vs : Value) (now : Int) (w : World) (hr : Rd oneI64 1 w vs ins) (hk : b.kind = 5) (hm : mayB b ins now = 0) : Calls Try.prog 19 #[vBlk b, vs, .int .i64 now] w fun e w' => e = .returned (.tuple #[vBlk (stepB b ins now), .int .i64 0]) ∧ Below w.heap.size w w' := by
  obtain ⟨hrt, n1, n2, hok⟩ := mayB_ok hm
  obtain ⟨q1, q2, q3, q4, q5, q6⟩ := rightBlk_bnd hrt
  have hrr := refr_any b
  rw [hrt] at hrr
  rw [hk] at hok
  have hil : ins.length = 3 := by rw [← okIns_len hok]; rfl
  clear hm hrt
  obtain ⟨x0, x1, x2, rfl⟩ : ∃ x0 x1 x2, ins = [x0, x1, x2] := by
    match ins, hil with
    | [x0, x1, x2], _ => exact ⟨x0, x1, x2, rfl⟩
  have HOK := Fact.mk hok
  have HRd := Fact.mk hr
  obtain ⟨ik, io, ic, rfl, _⟩ := hr.at64 0 (by simp)
  clear hr hok hil
  obtain ⟨kind, w0, w1, ran, going, frm, et, cv, q, p⟩ := b
  obtain rfl : kind = 5 := hk
  unfold vBlk at hrr ⊢
  go_enter Try.func19, Try.ntmps19
  go_wp2_with fail
  refine (hrr _).mono ?_
  rintro e W1 ⟨rfl, hb1⟩
  obtain ⟨t1, t2, t3, t4⟩ := two_blocks w (Obj.cells #[.int .u8 5, .bool w0, .bool w1, .bool ran, .bool going, .int .i64 frm, .int .i64 et, .int .i64 cv, .bool q, .bool p] 25) (Obj.cells #[.int .u8 0, .bool false, .bool false, .bool false, .bool false, .int .i64 0, .int .i64 0, .int .i64 0, .bool false, .bool false] 25)
  have s1 : w.heap.size + 1 + 1 ≤ W1.heap.size := by have := hb1.size; rw [t4] at this; exact this
  have r1 := hb1.block w.heap.size (by rw [t4]; omega)
  rw [t2] at r1
  have r2 := hb1.block (w.heap.size + 1) (by rw [t4]; omega)
  rw [t3] at r2
  have B1 := Fact.mk (t1.trans (hb1.mono t1.size))
  have R1 := Fact.mk r1
  have R2 := Fact.mk r2
  have HS1 := Fact.mk s1
  obtain ⟨d0, -, -, -, -, -, -, -, -, -, -, -, -, -, -, -, -, -, -, -⟩ := row10 r1
  clear t1 t2 t3 t4 r1 r2 hb1 hrr s1
  go_wp2_with fail
  refine (rpins_any 5 (by decide) (by decide) _).mono ?_
  rintro e W2 ⟨v1, v2, rfl, ho1, ho2, hb2⟩
  obtain ⟨Ap, cp, rfl⟩ := ho1.slice2
  obtain ⟨A2, c2, rfl⟩ := ho2.slice2
  have HP := Fact.mk (ho1.rd oneU8_len)
  have r1 := hb2.block w.heap.size (by have := HS1.out; omega)
  rw [R1.out] at r1
  have r2 := hb2.block (w.heap.size + 1) (by have := HS1.out; omega)
  rw [R2.out] at r2
  have B2 := Fact.mk (B1.out.trans (hb2.mono B1.out.size))
  have S2 := Fact.mk r1
  have R2' := Fact.mk r2
  have lt1 : w.heap.size + 1 < W2.heap.size := by have := HS1.out; have := hb2.size; omega
  have lt0 : w.heap.size < W2.heap.size := by omega
  have hle : (pinsIn 5).length = 3 := rfl
  rw [hle]
  clear ho1 ho2 hb2 r1 r2 d0 hle
  obtain ⟨d0, d1, d2, d3, d4, d5, d6, d7, d8, d9, -, -, -, -, -, -, -, -, -, -⟩ := row10 S2.out
  go_wp2_with fail
  go_loop [10] (fun i => ∃ m : Nat, m ≤ 3 ∧ i = .int .i64 m) (fun i => 3 - (intOf i).toNat)
  case atStart => exact ⟨0, Nat.zero_le _, rfl⟩
  case round =>
    obtain ⟨m, hm, rfl⟩ := hrel
    by_cases hmp : m < 3
    · obtain ⟨bp, op, _, ep, qp⟩ : ∃ b off c, Value.slice Ap 3 cp = .slice (some ⟨b, off, none⟩) 3 c ∧ W2.cell? ⟨b, off + m, none⟩ = some (.int .u8 ((pinsIn 5)[m]'hmp)) := by
        obtain ⟨h0, A, c, e, h2, h4, h3⟩ := HP.out
        cases e
        obtain ⟨b, off, rfl, hc⟩ := h3 (by decide)
        have := hc m hmp 0 _ rfl
        rw [show off + m * 1 + 0 = off + m from by omega] at this
        exact ⟨b, off, _, rfl, this⟩
      cases ep
      obtain ⟨_, _, _, eo, qo⟩ := (HRd.out.below B2.out).at64 m hmp
      cases eo
      have hr := okIns_get HOK.out m hmp hmp
      have hx0 : ([x0, x1, x2] : List Int).getD m 0 = [x0, x1, x2][m]'hmp := by rw [List.getD_eq_getElem?_getD, List.getElem?_eq_getElem hmp]; rfl
      rw [hx0] at qo
      obtain ⟨t, ht⟩ : ∃ t, (pinsIn 5)[m]'hmp = t := ⟨_, rfl⟩
      obtain ⟨x, hx⟩ : ∃ x, ([x0, x1, x2] : List Int)[m]'hmp = x := ⟨_, rfl⟩
      rw [ht, hx] at hr
      rw [ht] at qp
      rw [hx] at qo
      have j1 : (m : Int) < 3 := by omega
      obtain ⟨lo, hlo⟩ : ∃ lo, (rangeOf t).1 = lo := ⟨_, rfl⟩
      obtain ⟨hi, hhi⟩ : ∃ hi, (rangeOf t).2 = hi := ⟨_, rfl⟩
      have hrg := rrange_any t W2
      unfold inR at hr
      rw [hlo, hhi] at hrg hr
      simp only [Bool.and_eq_true, decide_eq_true_eq] at hr
      obtain ⟨hr1, hr2⟩ := hr
      clear ht hx hx0 hlo hhi
      go_wp2_with (go_at_call 34; refine hrg.mono ?_; rintro e w' ⟨rfl, rfl⟩)
      go_round
      case rel => exact ⟨m + 1, by omega, by go_num⟩
      case measure => simp [intOf]; omega
    · obtain rfl : m = 3 := by omega
      clear hmp hm HP
      obtain ⟨_, _, _, eo, cx0⟩ := (HRd.out.below B2.out).at64 0 (by simp)
      cases eo
      replace cx0 : W2.cell? ⟨ik, io, none⟩ = some (.int .i64 x0) := cx0
      obtain ⟨_, _, _, eo, cx1⟩ := (HRd.out.below B2.out).at64 1 (by simp)
      cases eo
      replace cx1 : W2.cell? ⟨ik, io + 1, none⟩ = some (.int .i64 x1) := cx1
      obtain ⟨_, _, _, eo, cx2⟩ := (HRd.out.below B2.out).at64 2 (by simp)
      cases eo
      replace cx2 : W2.cell? ⟨ik, io + 2, none⟩ = some (.int .i64 x2) := cx2
      have ltk2 : ik < W2.heap.size := World.block_lt_of_cell? W2 _ cx0
      have RA : Fact (∀ o, (W2.alloc o).heap[w.heap.size + 1]? = some (.cells #[.int .u8 0, .bool false, .bool false, .bool false, .bool false, .int .i64 0, .int .i64 0, .int .i64 0, .bool false, .bool false] 25 (0, 0))) := ⟨fun o => ((one_block W2 o).1.block (w.heap.size + 1) lt1).trans R2'.out⟩
      have BELA : Fact (∀ o, Below w.heap.size w (W2.alloc o)) := ⟨fun o => B2.out.trans ((one_block W2 o).1.mono B2.out.size)⟩
      by_cases hbx1 : x1 = 1
      · have hx1e : (x1 == 1) = true := beq_iff_eq.2 hbx1
        have HX1 : Fact (decide (x1 = 1) = true) := ⟨decide_eq_true hbx1⟩
        clear hbx1
        by_cases hbx0 : x0 = 1
        · have hx0e : (x0 == 1) = true := beq_iff_eq.2 hbx0
          have HX0 : Fact (decide (x0 = 1) = true) := ⟨decide_eq_true hbx0⟩
          clear hbx0
          obtain ⟨l0, l1, l2, l3, l4, l5, l6, l7, l8, l9, m0, m1, m2, m3, m4, m5, m6, m7, m8, m9⟩ := row10 R2'.out
          go_wp2_with (first | (go_at_call 36; refine (more_any _ _ q5 q6).mono ?_; rintro e w1 ⟨rfl, rfl⟩) | (go_at_call 37; refine (less_any _ _ q5 q6).mono ?_; rintro e w1 ⟨rfl, rfl⟩))
          clear l0 l1 l2 l3 l4 l5 l6 l7 l8 l9 m0 m1 m2 m3 m4 m5 m6 m7 m8 m9
          obtain ⟨w2, e2, h2, g2⟩ := store10 R2'.out (.int .u8 5) (.bool true) (.bool w1) (.bool ran) (.bool going) (.int .i64 frm) (.int .i64 et) (.int .i64 x2) (.bool (decide (x2 ≤ 0))) (.bool p)
          rw [e2]
          obtain ⟨y1, -, -⟩ := one_block w2 (Obj.cells #[.int .u8 5, .bool true, .bool w1, .bool ran, .bool going, .int .i64 frm, .int .i64 et, .int .i64 x2, .bool (decide (x2 ≤ 0)), .bool p] 25)
          have sz := g2.size
          have hh : ((w2.alloc (Obj.cells #[.int .u8 5, .bool true, .bool w1, .bool ran, .bool going, .int .i64 frm, .int .i64 et, .int .i64 x2, .bool (decide (x2 ≤ 0)), .bool p] 25))).heap[w.heap.size + 1]? = _ := (y1.block (w.heap.size + 1) (by omega)).trans h2
          exact bodyPost_ret (res_cell_tmp Try.results19 _ _ (w.heap.size + 1) rfl hh Try.underlying25 rfl Try.sizeBlk) rfl ⟨ret_blk (b := (⟨5, true, w1, ran, going, frm, et, x2, (decide (x2 ≤ 0)), p⟩ : GBlock)) (by unfold stepB counterB zeroC loadC upC downC qC cntC onB; simp [HX0.out, HX1.out]) 0, B2.out.trans ((grown_Below g2 (by omega) (by omega)).trans (y1.mono (by omega)))⟩
        · have hx0e : (x0 == 1) = false := beq_eq_false_iff_ne.2 hbx0
          have HX0 : Fact (decide (x0 = 1) = false) := ⟨decide_eq_false hbx0⟩
          clear hbx0
          obtain ⟨l0, l1, l2, l3, l4, l5, l6, l7, l8, l9, m0, m1, m2, m3, m4, m5, m6, m7, m8, m9⟩ := row10 R2'.out
          go_wp2_with (first | (go_at_call 36; refine (more_any _ _ q5 q6).mono ?_; rintro e w1 ⟨rfl, rfl⟩) | (go_at_call 37; refine (less_any _ _ q5 q6).mono ?_; rintro e w1 ⟨rfl, rfl⟩))
          clear l0 l1 l2 l3 l4 l5 l6 l7 l8 l9 m0 m1 m2 m3 m4 m5 m6 m7 m8 m9
          obtain ⟨w2, e2, h2, g2⟩ := store10 R2'.out (.int .u8 5) (.bool false) (.bool w1) (.bool ran) (.bool going) (.int .i64 frm) (.int .i64 et) (.int .i64 x2) (.bool (decide (x2 ≤ 0))) (.bool p)
          rw [e2]
          obtain ⟨y1, -, -⟩ := one_block w2 (Obj.cells #[.int .u8 5, .bool false, .bool w1, .bool ran, .bool going, .int .i64 frm, .int .i64 et, .int .i64 x2, .bool (decide (x2 ≤ 0)), .bool p] 25)
          have sz := g2.size
          have hh : ((w2.alloc (Obj.cells #[.int .u8 5, .bool false, .bool w1, .bool ran, .bool going, .int .i64 frm, .int .i64 et, .int .i64 x2, .bool (decide (x2 ≤ 0)), .bool p] 25))).heap[w.heap.size + 1]? = _ := (y1.block (w.heap.size + 1) (by omega)).trans h2
          exact bodyPost_ret (res_cell_tmp Try.results19 _ _ (w.heap.size + 1) rfl hh Try.underlying25 rfl Try.sizeBlk) rfl ⟨ret_blk (b := (⟨5, false, w1, ran, going, frm, et, x2, (decide (x2 ≤ 0)), p⟩ : GBlock)) (by unfold stepB counterB zeroC loadC upC downC qC cntC onB; simp [HX0.out, HX1.out]) 0, B2.out.trans ((grown_Below g2 (by omega) (by omega)).trans (y1.mono (by omega)))⟩
      · have hx1e : (x1 == 1) = false := beq_eq_false_iff_ne.2 hbx1
        have HX1 : Fact (decide (x1 = 1) = false) := ⟨decide_eq_false hbx1⟩
        clear hbx1
        by_cases hbx0 : x0 = 1
        · have hx0e : (x0 == 1) = true := beq_iff_eq.2 hbx0
          have HX0 : Fact (decide (x0 = 1) = true) := ⟨decide_eq_true hbx0⟩
          clear hbx0
          cases w0 with
          | true =>
            obtain ⟨l0, l1, l2, l3, l4, l5, l6, l7, l8, l9, m0, m1, m2, m3, m4, m5, m6, m7, m8, m9⟩ := row10 R2'.out
            go_wp2_with (first | (go_at_call 36; refine (more_any _ _ q5 q6).mono ?_; rintro e w1 ⟨rfl, rfl⟩) | (go_at_call 37; refine (less_any _ _ q5 q6).mono ?_; rintro e w1 ⟨rfl, rfl⟩))
            clear l0 l1 l2 l3 l4 l5 l6 l7 l8 l9 m0 m1 m2 m3 m4 m5 m6 m7 m8 m9
            obtain ⟨w2, e2, h2, g2⟩ := store10 R2'.out (.int .u8 5) (.bool true) (.bool w1) (.bool ran) (.bool going) (.int .i64 frm) (.int .i64 et) (.int .i64 cv) (.bool (decide (cv ≤ 0))) (.bool p)
            rw [e2]
            obtain ⟨y1, -, -⟩ := one_block w2 (Obj.cells #[.int .u8 5, .bool true, .bool w1, .bool ran, .bool going, .int .i64 frm, .int .i64 et, .int .i64 cv, .bool (decide (cv ≤ 0)), .bool p] 25)
            have sz := g2.size
            have hh : ((w2.alloc (Obj.cells #[.int .u8 5, .bool true, .bool w1, .bool ran, .bool going, .int .i64 frm, .int .i64 et, .int .i64 cv, .bool (decide (cv ≤ 0)), .bool p] 25))).heap[w.heap.size + 1]? = _ := (y1.block (w.heap.size + 1) (by omega)).trans h2
            exact bodyPost_ret (res_cell_tmp Try.results19 _ _ (w.heap.size + 1) rfl hh Try.underlying25 rfl Try.sizeBlk) rfl ⟨ret_blk (b := (⟨5, true, w1, ran, going, frm, et, cv, (decide (cv ≤ 0)), p⟩ : GBlock)) (by unfold stepB counterB zeroC loadC upC downC qC cntC onB; simp [HX0.out, HX1.out]) 0, B2.out.trans ((grown_Below g2 (by omega) (by omega)).trans (y1.mono (by omega)))⟩
          | false =>
            obtain ⟨l0, l1, l2, l3, l4, l5, l6, l7, l8, l9, m0, m1, m2, m3, m4, m5, m6, m7, m8, m9⟩ := row10 R2'.out
            go_wp2_with (first | (go_at_call 36; refine (more_any _ _ q5 q6).mono ?_; rintro e w1 ⟨rfl, rfl⟩) | (go_at_call 37; refine (less_any _ _ q5 q6).mono ?_; rintro e w1 ⟨rfl, rfl⟩))
            clear l0 l1 l2 l3 l4 l5 l6 l7 l8 l9 m0 m1 m2 m3 m4 m5 m6 m7 m8 m9
            obtain ⟨w2, e2, h2, g2⟩ := store10 R2'.out (.int .u8 5) (.bool true) (.bool w1) (.bool ran) (.bool going) (.int .i64 frm) (.int .i64 et) (.int .i64 (stepC cv (-1))) (.bool (decide ((stepC cv (-1)) ≤ 0))) (.bool p)
            rw [e2]
            obtain ⟨y1, -, -⟩ := one_block w2 (Obj.cells #[.int .u8 5, .bool true, .bool w1, .bool ran, .bool going, .int .i64 frm, .int .i64 et, .int .i64 (stepC cv (-1)), .bool (decide ((stepC cv (-1)) ≤ 0)), .bool p] 25)
            have sz := g2.size
            have hh : ((w2.alloc (Obj.cells #[.int .u8 5, .bool true, .bool w1, .bool ran, .bool going, .int .i64 frm, .int .i64 et, .int .i64 (stepC cv (-1)), .bool (decide ((stepC cv (-1)) ≤ 0)), .bool p] 25))).heap[w.heap.size + 1]? = _ := (y1.block (w.heap.size + 1) (by omega)).trans h2
            exact bodyPost_ret (res_cell_tmp Try.results19 _ _ (w.heap.size + 1) rfl hh Try.underlying25 rfl Try.sizeBlk) rfl ⟨ret_blk (b := (⟨5, true, w1, ran, going, frm, et, (stepC cv (-1)), (decide ((stepC cv (-1)) ≤ 0)), p⟩ : GBlock)) (by unfold stepB counterB zeroC loadC upC downC qC cntC onB; simp [HX0.out, HX1.out]) 0, B2.out.trans ((grown_Below g2 (by omega) (by omega)).trans (y1.mono (by omega)))⟩
        · have hx0e : (x0 == 1) = false := beq_eq_false_iff_ne.2 hbx0
          have HX0 : Fact (decide (x0 = 1) = false) := ⟨decide_eq_false hbx0⟩
          clear hbx0
          obtain ⟨l0, l1, l2, l3, l4, l5, l6, l7, l8, l9, m0, m1, m2, m3, m4, m5, m6, m7, m8, m9⟩ := row10 R2'.out
          go_wp2_with (first | (go_at_call 36; refine (more_any _ _ q5 q6).mono ?_; rintro e w1 ⟨rfl, rfl⟩) | (go_at_call 37; refine (less_any _ _ q5 q6).mono ?_; rintro e w1 ⟨rfl, rfl⟩))
          clear l0 l1 l2 l3 l4 l5 l6 l7 l8 l9 m0 m1 m2 m3 m4 m5 m6 m7 m8 m9
          obtain ⟨w2, e2, h2, g2⟩ := store10 R2'.out (.int .u8 5) (.bool false) (.bool w1) (.bool ran) (.bool going) (.int .i64 frm) (.int .i64 et) (.int .i64 cv) (.bool (decide (cv ≤ 0))) (.bool p)
          rw [e2]
          obtain ⟨y1, -, -⟩ := one_block w2 (Obj.cells #[.int .u8 5, .bool false, .bool w1, .bool ran, .bool going, .int .i64 frm, .int .i64 et, .int .i64 cv, .bool (decide (cv ≤ 0)), .bool p] 25)
          have sz := g2.size
          have hh : ((w2.alloc (Obj.cells #[.int .u8 5, .bool false, .bool w1, .bool ran, .bool going, .int .i64 frm, .int .i64 et, .int .i64 cv, .bool (decide (cv ≤ 0)), .bool p] 25))).heap[w.heap.size + 1]? = _ := (y1.block (w.heap.size + 1) (by omega)).trans h2
          exact bodyPost_ret (res_cell_tmp Try.results19 _ _ (w.heap.size + 1) rfl hh Try.underlying25 rfl Try.sizeBlk) rfl ⟨ret_blk (b := (⟨5, false, w1, ran, going, frm, et, cv, (decide (cv ≤ 0)), p⟩ : GBlock)) (by unfold stepB counterB zeroC loadC upC downC qC cntC onB; simp [HX0.out, HX1.out]) 0, B2.out.trans ((grown_Below g2 (by omega) (by omega)).trans (y1.mono (by omega)))⟩
end Go.Proofs.Ytjanofopmmndoaa

