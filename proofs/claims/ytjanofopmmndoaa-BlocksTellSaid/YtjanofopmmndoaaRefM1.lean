/- blockhouseref15.Run, kind 1. -/
import Derived.Test.YtjanofopmmndoaaRefS
import Derived.Test.YtjanofopmmndoaaRefR
import Derived.RegionTactic
namespace Go.Proofs.Ytjanofopmmndoaa
open Go.RowKit
set_option maxRecDepth 100000 in
set_option maxHeartbeats 8000000 in
theorem rrun_1 (b : GBlock) (ins : List Int) (vs : Value) (now : Int) (w : World) (hr : Rd oneI64 1 w vs ins) (hk : b.kind = 1) (hm : mayB b ins now = 0) : Calls Try.prog 19 #[vBlk b, vs, .int .i64 now] w fun e w' => e = .returned (.tuple #[vBlk (stepB b ins now), .int .i64 0]) ∧ Below w.heap.size w w' := by
  obtain ⟨hrt, n1, n2, hok⟩ := mayB_ok hm
  obtain ⟨q1, q2, q3, q4, q5, q6⟩ := rightBlk_bnd hrt
  have hrr := refr_any b
  rw [hrt] at hrr
  rw [hk] at hok
  have hil : ins.length = 2 := by rw [← okIns_len hok]; rfl
  clear hm hrt
  obtain ⟨x0, x1, rfl⟩ : ∃ x0 x1, ins = [x0, x1] := by
    match ins, hil with
    | [x0, x1], _ => exact ⟨x0, x1, rfl⟩
  have HOK := Fact.mk hok
  have HRd := Fact.mk hr
  obtain ⟨ik, io, ic, rfl, _⟩ := hr.at64 0 (by simp)
  clear hr hok hil
  obtain ⟨kind, w0, w1, ran, going, frm, et, cv, q, p⟩ := b
  obtain rfl : kind = 1 := hk
  unfold vBlk at hrr ⊢
  go_enter Try.func19, Try.ntmps19
  go_wp2_with fail
  refine (hrr _).mono ?_
  rintro e W1 ⟨rfl, hb1⟩
  obtain ⟨t1, t2, t3, t4⟩ := two_blocks w (Obj.cells #[.int .u8 1, .bool w0, .bool w1, .bool ran, .bool going, .int .i64 frm, .int .i64 et, .int .i64 cv, .bool q, .bool p] 25) (Obj.cells #[.int .u8 0, .bool false, .bool false, .bool false, .bool false, .int .i64 0, .int .i64 0, .int .i64 0, .bool false, .bool false] 25)
  have s1 : w.heap.size + 1 + 1 ≤ W1.heap.size := by have := hb1.size; rw [t4] at this; exact this
  have r1 := hb1.block w.heap.size (by rw [t4]; omega)
  rw [t2] at r1
  have r2 := hb1.block (w.heap.size + 1) (by rw [t4]; omega)
  rw [t3] at r2
  have B1 := Fact.mk (t1.trans (hb1.mono t1.size))
  have R1 := Fact.mk r1
  have R2 := Fact.mk r2
  have HS1 := Fact.mk s1
  obtain ⟨d0, -, -, -, -, -, -, -, -, -, -, -, -, -, -, -, -, -, -, -⟩ := row10 r1
  clear t1 t2 t3 t4 r1 r2 hb1 hrr s1
  go_wp2_with fail
  refine (rpins_any 1 (by decide) (by decide) _).mono ?_
  rintro e W2 ⟨v1, v2, rfl, ho1, ho2, hb2⟩
  obtain ⟨Ap, cp, rfl⟩ := ho1.slice2
  obtain ⟨A2, c2, rfl⟩ := ho2.slice2
  have HP := Fact.mk (ho1.rd oneU8_len)
  have r1 := hb2.block w.heap.size (by have := HS1.out; omega)
  rw [R1.out] at r1
  have r2 := hb2.block (w.heap.size + 1) (by have := HS1.out; omega)
  rw [R2.out] at r2
  have B2 := Fact.mk (B1.out.trans (hb2.mono B1.out.size))
  have S2 := Fact.mk r1
  have R2' := Fact.mk r2
  have lt1 : w.heap.size + 1 < W2.heap.size := by have := HS1.out; have := hb2.size; omega
  have lt0 : w.heap.size < W2.heap.size := by omega
  have hle : (pinsIn 1).length = 2 := rfl
  rw [hle]
  clear ho1 ho2 hb2 r1 r2 d0 hle
  obtain ⟨d0, d1, d2, d3, d4, d5, d6, d7, d8, d9, -, -, -, -, -, -, -, -, -, -⟩ := row10 S2.out
  go_wp2_with fail
  go_loop [10] (fun i => ∃ m : Nat, m ≤ 2 ∧ i = .int .i64 m) (fun i => 2 - (intOf i).toNat)
  case atStart => exact ⟨0, Nat.zero_le _, rfl⟩
  case round =>
    obtain ⟨m, hm, rfl⟩ := hrel
    by_cases hmp : m < 2
    · obtain ⟨bp, op, _, ep, qp⟩ : ∃ b off c, Value.slice Ap 2 cp = .slice (some ⟨b, off, none⟩) 2 c ∧ W2.cell? ⟨b, off + m, none⟩ = some (.int .u8 ((pinsIn 1)[m]'hmp)) := by
        obtain ⟨h0, A, c, e, h2, h4, h3⟩ := HP.out
        cases e
        obtain ⟨b, off, rfl, hc⟩ := h3 (by decide)
        have := hc m hmp 0 _ rfl
        rw [show off + m * 1 + 0 = off + m from by omega] at this
        exact ⟨b, off, _, rfl, this⟩
      cases ep
      obtain ⟨_, _, _, eo, qo⟩ := (HRd.out.below B2.out).at64 m hmp
      cases eo
      have hr := okIns_get HOK.out m hmp hmp
      have hx0 : ([x0, x1] : List Int).getD m 0 = [x0, x1][m]'hmp := by rw [List.getD_eq_getElem?_getD, List.getElem?_eq_getElem hmp]; rfl
      rw [hx0] at qo
      obtain ⟨t, ht⟩ : ∃ t, (pinsIn 1)[m]'hmp = t := ⟨_, rfl⟩
      obtain ⟨x, hx⟩ : ∃ x, ([x0, x1] : List Int)[m]'hmp = x := ⟨_, rfl⟩
      rw [ht, hx] at hr
      rw [ht] at qp
      rw [hx] at qo
      have j1 : (m : Int) < 2 := by omega
      obtain ⟨lo, hlo⟩ : ∃ lo, (rangeOf t).1 = lo := ⟨_, rfl⟩
      obtain ⟨hi, hhi⟩ : ∃ hi, (rangeOf t).2 = hi := ⟨_, rfl⟩
      have hrg := rrange_any t W2
      unfold inR at hr
      rw [hlo, hhi] at hrg hr
      simp only [Bool.and_eq_true, decide_eq_true_eq] at hr
      obtain ⟨hr1, hr2⟩ := hr
      clear ht hx hx0 hlo hhi
      go_wp2_with (go_at_call 34; refine hrg.mono ?_; rintro e w' ⟨rfl, rfl⟩)
      go_round
      case rel => exact ⟨m + 1, by omega, by go_num⟩
      case measure => simp [intOf]; omega
    · obtain rfl : m = 2 := by omega
      clear hmp hm HP
      obtain ⟨_, _, _, eo, cx0⟩ := (HRd.out.below B2.out).at64 0 (by simp)
      cases eo
      replace cx0 : W2.cell? ⟨ik, io, none⟩ = some (.int .i64 x0) := cx0
      obtain ⟨_, _, _, eo, cx1⟩ := (HRd.out.below B2.out).at64 1 (by simp)
      cases eo
      replace cx1 : W2.cell? ⟨ik, io + 1, none⟩ = some (.int .i64 x1) := cx1
      have ltk2 : ik < W2.heap.size := World.block_lt_of_cell? W2 _ cx0
      have RA : Fact (∀ o, (W2.alloc o).heap[w.heap.size + 1]? = some (.cells #[.int .u8 0, .bool false, .bool false, .bool false, .bool false, .int .i64 0, .int .i64 0, .int .i64 0, .bool false, .bool false] 25 (0, 0))) := ⟨fun o => ((one_block W2 o).1.block (w.heap.size + 1) lt1).trans R2'.out⟩
      have BELA : Fact (∀ o, Below w.heap.size w (W2.alloc o)) := ⟨fun o => B2.out.trans ((one_block W2 o).1.mono B2.out.size)⟩
      by_cases hbx0 : x0 = 1
      · have hx0e : (x0 == 1) = true := beq_iff_eq.2 hbx0
        have HX0 : Fact (decide (x0 = 1) = true) := ⟨decide_eq_true hbx0⟩
        clear hbx0
        have hq : BlkAt (W2.alloc (Obj.cells #[.int .u8 1, .bool w0, .bool w1, .bool ran, .bool going, .int .i64 frm, .int .i64 et, .int .i64 cv, .bool q, .bool p] 25)) W2.heap.size (⟨1, w0, w1, ran, going, frm, et, cv, q, p⟩ : GBlock) := heap_alloc_new W2 _
        have hh : ((W2.alloc (Obj.cells #[.int .u8 1, .bool w0, .bool w1, .bool ran, .bool going, .int .i64 frm, .int .i64 et, .int .i64 cv, .bool q, .bool p] 25))).heap[w.heap.size + 1]? = some (.cells #[.int .u8 0, .bool false, .bool false, .bool false, .bool false, .int .i64 0, .int .i64 0, .int .i64 0, .bool false, .bool false] 25 (0, 0)) := RA.out _
        have hbl : Below w.heap.size w ((W2.alloc (Obj.cells #[.int .u8 1, .bool w0, .bool w1, .bool ran, .bool going, .int .i64 frm, .int .i64 et, .int .i64 cv, .bool q, .bool p] 25))) := BELA.out _
        have hsz : ((W2.alloc (Obj.cells #[.int .u8 1, .bool w0, .bool w1, .bool ran, .bool going, .int .i64 frm, .int .i64 et, .int .i64 cv, .bool q, .bool p] 25))).heap.size = W2.heap.size + 1 := by simp
        have HQ := Fact.mk hq
        have HH := Fact.mk hh
        have HBL := Fact.mk hbl
        have HSZ := Fact.mk hsz
        clear hq hh hbl hsz
        go_wp2_with fail
        refine (rtimer_any _ _ _ x1 now HQ.out n1 n2 (by first | exact q1 | exact n1) (by first | exact q2 | exact n2)).mono ?_
        rintro e W3 ⟨rfl, h3, g3⟩
        have RT := Fact.mk (grown_other g3 HH.out (by omega))
        have BT := Fact.mk (HBL.out.trans (grown_Below g3 (by rw [HSZ.out]; omega) (by omega)))
        obtain ⟨b3, hb3⟩ : ∃ b3, goB (⟨1, w0, w1, ran, going, frm, et, cv, q, p⟩ : GBlock) now x1 = b3 := ⟨_, rfl⟩
        obtain ⟨o3, ho3⟩ : ∃ o3, overB (⟨1, w0, w1, ran, going, frm, et, cv, q, p⟩ : GBlock) now x1 = o3 := ⟨_, rfl⟩
        rw [hb3] at h3
        rw [ho3]
        have HB3 := Fact.mk hb3
        have HO3 := Fact.mk ho3
        have B3 := Fact.mk h3
        have k3 : b3.kind = 1 := by rw [← hb3]; rfl
        have gg3 : b3.going = true := by rw [← hb3]; rfl
        have K3 := Fact.mk k3
        clear h3 g3 hb3 ho3 HH HBL HSZ HQ d0 d1 d2 d3 d4 d5 d6 d7 d8 d9
        obtain ⟨e0, e1, e2, e3, e4, e5, e6, e7, e8, e9, z0, z1, z2, z3, z4, z5, z6, z7, z8, z9⟩ := row10 B3.out
        rw [k3] at e0
        rw [gg3] at e4
        have G3 := Fact.mk gg3
        clear k3 gg3
        have hh : ((World.setCell (World.setCell W3 ⟨W2.heap.size, 8, none⟩ (.bool o3)) ⟨W2.heap.size, 1, none⟩ (.bool true))).heap[w.heap.size + 1]? = some (.cells #[.int .u8 0, .bool false, .bool false, .bool false, .bool false, .int .i64 0, .int .i64 0, .int .i64 0, .bool false, .bool false] 25 (0, 0)) := ((heap_setCell_other _ ⟨W2.heap.size, 1, none⟩ (w.heap.size + 1) (.bool true) (by show w.heap.size + 1 ≠ W2.heap.size; omega)).trans ((heap_setCell_other _ ⟨W2.heap.size, 8, none⟩ (w.heap.size + 1) (.bool o3) (by show w.heap.size + 1 ≠ W2.heap.size; omega)).trans RT.out))
        have hbl : Below w.heap.size w ((World.setCell (World.setCell W3 ⟨W2.heap.size, 8, none⟩ (.bool o3)) ⟨W2.heap.size, 1, none⟩ (.bool true))) := BT.out.trans (Below.setCell (Below.setCell (Below.refl _ _) (by show w.heap.size ≤ W2.heap.size; omega) (.bool o3)) (by show w.heap.size ≤ W2.heap.size; omega) (.bool true))
        have HH := Fact.mk hh
        have HBL := Fact.mk hbl
        clear hh hbl
        obtain ⟨l0, l1, l2, l3, l4, l5, l6, l7, l8, l9, m0, m1, m2, m3, m4, m5, m6, m7, m8, m9⟩ := row10 RT.out
        go_wp2_with fail
        clear l0 l1 l2 l3 l4 l5 l6 l7 l8 l9 m0 m1 m2 m3 m4 m5 m6 m7 m8 m9
        obtain ⟨w2, e2, h2, g2⟩ := store10 HH.out (.int .u8 1) (.bool true) (.bool b3.w1) (.bool b3.ran) (.bool true) (.int .i64 b3.frm) (.int .i64 b3.et) (.int .i64 b3.cv) (.bool o3) (.bool b3.p)
        rw [e2]
        exact bodyPost_ret (res_cell_tmp Try.results19 _ w2 (w.heap.size + 1) rfl h2 Try.underlying25 rfl Try.sizeBlk) rfl ⟨ret_blk (b := (⟨1, true, b3.w1, b3.ran, true, b3.frm, b3.et, b3.cv, o3, b3.p⟩ : GBlock)) (by rw [← HO3.out, ← HB3.out]; unfold stepB timerB onB; simp [HX0.out, goB]) 0, HBL.out.trans (grown_Below g2 HBL.out.size (by omega))⟩
      · have hx0e : (x0 == 1) = false := beq_eq_false_iff_ne.2 hbx0
        have HX0 : Fact (decide (x0 = 1) = false) := ⟨decide_eq_false hbx0⟩
        clear hbx0
        obtain ⟨l0, l1, l2, l3, l4, l5, l6, l7, l8, l9, m0, m1, m2, m3, m4, m5, m6, m7, m8, m9⟩ := row10 R2'.out
        go_wp2_with fail
        clear l0 l1 l2 l3 l4 l5 l6 l7 l8 l9 m0 m1 m2 m3 m4 m5 m6 m7 m8 m9
        obtain ⟨w2, e2, h2, g2⟩ := store10 R2'.out (.int .u8 1) (.bool false) (.bool w1) (.bool ran) (.bool false) (.int .i64 0) (.int .i64 0) (.int .i64 cv) (.bool false) (.bool p)
        rw [e2]
        obtain ⟨y1, -, -⟩ := one_block w2 (Obj.cells #[.int .u8 1, .bool false, .bool w1, .bool ran, .bool false, .int .i64 0, .int .i64 0, .int .i64 cv, .bool false, .bool p] 25)
        have sz := g2.size
        have hh : ((w2.alloc (Obj.cells #[.int .u8 1, .bool false, .bool w1, .bool ran, .bool false, .int .i64 0, .int .i64 0, .int .i64 cv, .bool false, .bool p] 25))).heap[w.heap.size + 1]? = _ := (y1.block (w.heap.size + 1) (by omega)).trans h2
        exact bodyPost_ret (res_cell_tmp Try.results19 _ _ (w.heap.size + 1) rfl hh Try.underlying25 rfl Try.sizeBlk) rfl ⟨ret_blk (b := (⟨1, false, w1, ran, false, 0, 0, cv, false, p⟩ : GBlock)) (by unfold stepB timerB onB; simp [HX0.out, stopB]) 0, B2.out.trans ((grown_Below g2 (by omega) (by omega)).trans (y1.mono (by omega)))⟩
end Go.Proofs.Ytjanofopmmndoaa

namespace Go.Proofs.Ytjanofopmmndoaa
open Go.RowKit
set_option maxRecDepth 100000 in
set_option maxHeartbeats 8000000 in
theorem rrun_2 (b : GBlock) (ins : List Int) (vs : Value) (now : Int) (w : World) (hr : Rd oneI64 1 w vs ins) (hk : b.kind = 2) (hm : mayB b ins now = 0) : Calls Try.prog 19 #[vBlk b, vs, .int .i64 now] w fun e w' => e = .returned (.tuple #[vBlk (stepB b ins now), .int .i64 0]) ∧ Below w.heap.size w w' := by
  obtain ⟨hrt, n1, n2, hok⟩ := mayB_ok hm
  obtain ⟨q1, q2, q3, q4, q5, q6⟩ := rightBlk_bnd hrt
  have hrr := refr_any b
  rw [hrt] at hrr
  rw [hk] at hok
  have hil : ins.length = 2 := by rw [← okIns_len hok]; rfl
  clear hm hrt
  obtain ⟨x0, x1, rfl⟩ : ∃ x0 x1, ins = [x0, x1] := by
    match ins, hil with
    | [x0, x1], _ => exact ⟨x0, x1, rfl⟩
  have HOK := Fact.mk hok
  have HRd := Fact.mk hr
  obtain ⟨ik, io, ic, rfl, _⟩ := hr.at64 0 (by simp)
  clear hr hok hil
  obtain ⟨kind, w0, w1, ran, going, frm, et, cv, q, p⟩ := b
  obtain rfl : kind = 2 := hk
  unfold vBlk at hrr ⊢
  go_enter Try.func19, Try.ntmps19
  go_wp2_with fail
  refine (hrr _).mono ?_
  rintro e W1 ⟨rfl, hb1⟩
  obtain ⟨t1, t2, t3, t4⟩ := two_blocks w (Obj.cells #[.int .u8 2, .bool w0, .bool w1, .bool ran, .bool going, .int .i64 frm, .int .i64 et, .int .i64 cv, .bool q, .bool p] 25) (Obj.cells #[.int .u8 0, .bool false, .bool false, .bool false, .bool false, .int .i64 0, .int .i64 0, .int .i64 0, .bool false, .bool false] 25)
  have s1 : w.heap.size + 1 + 1 ≤ W1.heap.size := by have := hb1.size; rw [t4] at this; exact this
  have r1 := hb1.block w.heap.size (by rw [t4]; omega)
  rw [t2] at r1
  have r2 := hb1.block (w.heap.size + 1) (by rw [t4]; omega)
  rw [t3] at r2
  have B1 := Fact.mk (t1.trans (hb1.mono t1.size))
  have R1 := Fact.mk r1
  have R2 := Fact.mk r2
  have HS1 := Fact.mk s1
  obtain ⟨d0, -, -, -, -, -, -, -, -, -, -, -, -, -, -, -, -, -, -, -⟩ := row10 r1
  clear t1 t2 t3 t4 r1 r2 hb1 hrr s1
  go_wp2_with fail
  refine (rpins_any 2 (by decide) (by decide) _).mono ?_
  rintro e W2 ⟨v1, v2, rfl, ho1, ho2, hb2⟩
  obtain ⟨Ap, cp, rfl⟩ := ho1.slice2
  obtain ⟨A2, c2, rfl⟩ := ho2.slice2
  have HP := Fact.mk (ho1.rd oneU8_len)
  have r1 := hb2.block w.heap.size (by have := HS1.out; omega)
  rw [R1.out] at r1
  have r2 := hb2.block (w.heap.size + 1) (by have := HS1.out; omega)
  rw [R2.out] at r2
  have B2 := Fact.mk (B1.out.trans (hb2.mono B1.out.size))
  have S2 := Fact.mk r1
  have R2' := Fact.mk r2
  have lt1 : w.heap.size + 1 < W2.heap.size := by have := HS1.out; have := hb2.size; omega
  have lt0 : w.heap.size < W2.heap.size := by omega
  have hle : (pinsIn 2).length = 2 := rfl
  rw [hle]
  clear ho1 ho2 hb2 r1 r2 d0 hle
  obtain ⟨d0, d1, d2, d3, d4, d5, d6, d7, d8, d9, -, -, -, -, -, -, -, -, -, -⟩ := row10 S2.out
  go_wp2_with fail
  go_loop [10] (fun i => ∃ m : Nat, m ≤ 2 ∧ i = .int .i64 m) (fun i => 2 - (intOf i).toNat)
  case atStart => exact ⟨0, Nat.zero_le _, rfl⟩
  case round =>
    obtain ⟨m, hm, rfl⟩ := hrel
    by_cases hmp : m < 2
    · obtain ⟨bp, op, _, ep, qp⟩ : ∃ b off c, Value.slice Ap 2 cp = .slice (some ⟨b, off, none⟩) 2 c ∧ W2.cell? ⟨b, off + m, none⟩ = some (.int .u8 ((pinsIn 2)[m]'hmp)) := by
        obtain ⟨h0, A, c, e, h2, h4, h3⟩ := HP.out
        cases e
        obtain ⟨b, off, rfl, hc⟩ := h3 (by decide)
        have := hc m hmp 0 _ rfl
        rw [show off + m * 1 + 0 = off + m from by omega] at this
        exact ⟨b, off, _, rfl, this⟩
      cases ep
      obtain ⟨_, _, _, eo, qo⟩ := (HRd.out.below B2.out).at64 m hmp
      cases eo
      have hr := okIns_get HOK.out m hmp hmp
      have hx0 : ([x0, x1] : List Int).getD m 0 = [x0, x1][m]'hmp := by rw [List.getD_eq_getElem?_getD, List.getElem?_eq_getElem hmp]; rfl
      rw [hx0] at qo
      obtain ⟨t, ht⟩ : ∃ t, (pinsIn 2)[m]'hmp = t := ⟨_, rfl⟩
      obtain ⟨x, hx⟩ : ∃ x, ([x0, x1] : List Int)[m]'hmp = x := ⟨_, rfl⟩
      rw [ht, hx] at hr
      rw [ht] at qp
      rw [hx] at qo
      have j1 : (m : Int) < 2 := by omega
      obtain ⟨lo, hlo⟩ : ∃ lo, (rangeOf t).1 = lo := ⟨_, rfl⟩
      obtain ⟨hi, hhi⟩ : ∃ hi, (rangeOf t).2 = hi := ⟨_, rfl⟩
      have hrg := rrange_any t W2
      unfold inR at hr
      rw [hlo, hhi] at hrg hr
      simp only [Bool.and_eq_true, decide_eq_true_eq] at hr
      obtain ⟨hr1, hr2⟩ := hr
      clear ht hx hx0 hlo hhi
      go_wp2_with (go_at_call 34; refine hrg.mono ?_; rintro e w' ⟨rfl, rfl⟩)
      go_round
      case rel => exact ⟨m + 1, by omega, by go_num⟩
      case measure => simp [intOf]; omega
    · obtain rfl : m = 2 := by omega
      clear hmp hm HP
      obtain ⟨_, _, _, eo, cx0⟩ := (HRd.out.below B2.out).at64 0 (by simp)
      cases eo
      replace cx0 : W2.cell? ⟨ik, io, none⟩ = some (.int .i64 x0) := cx0
      obtain ⟨_, _, _, eo, cx1⟩ := (HRd.out.below B2.out).at64 1 (by simp)
      cases eo
      replace cx1 : W2.cell? ⟨ik, io + 1, none⟩ = some (.int .i64 x1) := cx1
      have ltk2 : ik < W2.heap.size := World.block_lt_of_cell? W2 _ cx0
      have RA : Fact (∀ o, (W2.alloc o).heap[w.heap.size + 1]? = some (.cells #[.int .u8 0, .bool false, .bool false, .bool false, .bool false, .int .i64 0, .int .i64 0, .int .i64 0, .bool false, .bool false] 25 (0, 0))) := ⟨fun o => ((one_block W2 o).1.block (w.heap.size + 1) lt1).trans R2'.out⟩
      have BELA : Fact (∀ o, Below w.heap.size w (W2.alloc o)) := ⟨fun o => B2.out.trans ((one_block W2 o).1.mono B2.out.size)⟩
      by_cases hbx0 : x0 = 1
      · have hx0e : (x0 == 1) = true := beq_iff_eq.2 hbx0
        have HX0 : Fact (decide (x0 = 1) = true) := ⟨decide_eq_true hbx0⟩
        clear hbx0
        obtain ⟨l0, l1, l2, l3, l4, l5, l6, l7, l8, l9, m0, m1, m2, m3, m4, m5, m6, m7, m8, m9⟩ := row10 R2'.out
        go_wp2_with fail
        clear l0 l1 l2 l3 l4 l5 l6 l7 l8 l9 m0 m1 m2 m3 m4 m5 m6 m7 m8 m9
        obtain ⟨w2, e2, h2, g2⟩ := store10 R2'.out (.int .u8 2) (.bool true) (.bool w1) (.bool ran) (.bool false) (.int .i64 0) (.int .i64 0) (.int .i64 cv) (.bool true) (.bool p)
        rw [e2]
        obtain ⟨y1, -, -⟩ := one_block w2 (Obj.cells #[.int .u8 2, .bool true, .bool w1, .bool ran, .bool false, .int .i64 0, .int .i64 0, .int .i64 cv, .bool true, .bool p] 25)
        have sz := g2.size
        have hh : ((w2.alloc (Obj.cells #[.int .u8 2, .bool true, .bool w1, .bool ran, .bool false, .int .i64 0, .int .i64 0, .int .i64 cv, .bool true, .bool p] 25))).heap[w.heap.size + 1]? = _ := (y1.block (w.heap.size + 1) (by omega)).trans h2
        exact bodyPost_ret (res_cell_tmp Try.results19 _ _ (w.heap.size + 1) rfl hh Try.underlying25 rfl Try.sizeBlk) rfl ⟨ret_blk (b := (⟨2, true, w1, ran, false, 0, 0, cv, true, p⟩ : GBlock)) (by unfold stepB timerB onB; simp [HX0.out, stopB]) 0, B2.out.trans ((grown_Below g2 (by omega) (by omega)).trans (y1.mono (by omega)))⟩
      · have hx0e : (x0 == 1) = false := beq_eq_false_iff_ne.2 hbx0
        have HX0 : Fact (decide (x0 = 1) = false) := ⟨decide_eq_false hbx0⟩
        clear hbx0
        cases q with
        | true =>
          have hq : BlkAt (W2.alloc (Obj.cells #[.int .u8 2, .bool w0, .bool w1, .bool ran, .bool going, .int .i64 frm, .int .i64 et, .int .i64 cv, .bool true, .bool p] 25)) W2.heap.size (⟨2, w0, w1, ran, going, frm, et, cv, true, p⟩ : GBlock) := heap_alloc_new W2 _
          have hh : ((W2.alloc (Obj.cells #[.int .u8 2, .bool w0, .bool w1, .bool ran, .bool going, .int .i64 frm, .int .i64 et, .int .i64 cv, .bool true, .bool p] 25))).heap[w.heap.size + 1]? = some (.cells #[.int .u8 0, .bool false, .bool false, .bool false, .bool false, .int .i64 0, .int .i64 0, .int .i64 0, .bool false, .bool false] 25 (0, 0)) := RA.out _
          have hbl : Below w.heap.size w ((W2.alloc (Obj.cells #[.int .u8 2, .bool w0, .bool w1, .bool ran, .bool going, .int .i64 frm, .int .i64 et, .int .i64 cv, .bool true, .bool p] 25))) := BELA.out _
          have hsz : ((W2.alloc (Obj.cells #[.int .u8 2, .bool w0, .bool w1, .bool ran, .bool going, .int .i64 frm, .int .i64 et, .int .i64 cv, .bool true, .bool p] 25))).heap.size = W2.heap.size + 1 := by simp
          have HQ := Fact.mk hq
          have HH := Fact.mk hh
          have HBL := Fact.mk hbl
          have HSZ := Fact.mk hsz
          clear hq hh hbl hsz
          go_wp2_with fail
          refine (rtimer_any _ _ _ x1 now HQ.out n1 n2 (by first | exact q1 | exact n1) (by first | exact q2 | exact n2)).mono ?_
          rintro e W3 ⟨rfl, h3, g3⟩
          have RT := Fact.mk (grown_other g3 HH.out (by omega))
          have BT := Fact.mk (HBL.out.trans (grown_Below g3 (by rw [HSZ.out]; omega) (by omega)))
          obtain ⟨b3, hb3⟩ : ∃ b3, goB (⟨2, w0, w1, ran, going, frm, et, cv, true, p⟩ : GBlock) now x1 = b3 := ⟨_, rfl⟩
          obtain ⟨o3, ho3⟩ : ∃ o3, overB (⟨2, w0, w1, ran, going, frm, et, cv, true, p⟩ : GBlock) now x1 = o3 := ⟨_, rfl⟩
          rw [hb3] at h3
          rw [ho3]
          have HB3 := Fact.mk hb3
          have HO3 := Fact.mk ho3
          have B3 := Fact.mk h3
          have k3 : b3.kind = 2 := by rw [← hb3]; rfl
          have gg3 : b3.going = true := by rw [← hb3]; rfl
          have K3 := Fact.mk k3
          clear h3 g3 hb3 ho3 HH HBL HSZ HQ d0 d1 d2 d3 d4 d5 d6 d7 d8 d9
          obtain ⟨e0, e1, e2, e3, e4, e5, e6, e7, e8, e9, z0, z1, z2, z3, z4, z5, z6, z7, z8, z9⟩ := row10 B3.out
          rw [k3] at e0
          rw [gg3] at e4
          have G3 := Fact.mk gg3
          clear k3 gg3
          cases o3 with
          | true =>
            have hh : ((World.setCell (World.setCell (World.setCell (World.setCell W3 ⟨W2.heap.size, 8, none⟩ (.bool false)) ⟨W2.heap.size, 4, none⟩ (.bool false)) ⟨W2.heap.size, 5, none⟩ (.int .i64 0)) ⟨W2.heap.size, 1, none⟩ (.bool false))).heap[w.heap.size + 1]? = some (.cells #[.int .u8 0, .bool false, .bool false, .bool false, .bool false, .int .i64 0, .int .i64 0, .int .i64 0, .bool false, .bool false] 25 (0, 0)) := ((heap_setCell_other _ ⟨W2.heap.size, 1, none⟩ (w.heap.size + 1) (.bool false) (by show w.heap.size + 1 ≠ W2.heap.size; omega)).trans ((heap_setCell_other _ ⟨W2.heap.size, 5, none⟩ (w.heap.size + 1) (.int .i64 0) (by show w.heap.size + 1 ≠ W2.heap.size; omega)).trans ((heap_setCell_other _ ⟨W2.heap.size, 4, none⟩ (w.heap.size + 1) (.bool false) (by show w.heap.size + 1 ≠ W2.heap.size; omega)).trans ((heap_setCell_other _ ⟨W2.heap.size, 8, none⟩ (w.heap.size + 1) (.bool false) (by show w.heap.size + 1 ≠ W2.heap.size; omega)).trans RT.out))))
            have hbl : Below w.heap.size w ((World.setCell (World.setCell (World.setCell (World.setCell W3 ⟨W2.heap.size, 8, none⟩ (.bool false)) ⟨W2.heap.size, 4, none⟩ (.bool false)) ⟨W2.heap.size, 5, none⟩ (.int .i64 0)) ⟨W2.heap.size, 1, none⟩ (.bool false))) := BT.out.trans (Below.setCell (Below.setCell (Below.setCell (Below.setCell (Below.refl _ _) (by show w.heap.size ≤ W2.heap.size; omega) (.bool false)) (by show w.heap.size ≤ W2.heap.size; omega) (.bool false)) (by show w.heap.size ≤ W2.heap.size; omega) (.int .i64 0)) (by show w.heap.size ≤ W2.heap.size; omega) (.bool false))
            have HH := Fact.mk hh
            have HBL := Fact.mk hbl
            clear hh hbl
            obtain ⟨l0, l1, l2, l3, l4, l5, l6, l7, l8, l9, m0, m1, m2, m3, m4, m5, m6, m7, m8, m9⟩ := row10 RT.out
            go_wp2_with fail
            clear l0 l1 l2 l3 l4 l5 l6 l7 l8 l9 m0 m1 m2 m3 m4 m5 m6 m7 m8 m9
            obtain ⟨w2, e2, h2, g2⟩ := store10 HH.out (.int .u8 2) (.bool false) (.bool b3.w1) (.bool b3.ran) (.bool false) (.int .i64 0) (.int .i64 b3.et) (.int .i64 b3.cv) (.bool false) (.bool b3.p)
            rw [e2]
            exact bodyPost_ret (res_cell_tmp Try.results19 _ w2 (w.heap.size + 1) rfl h2 Try.underlying25 rfl Try.sizeBlk) rfl ⟨ret_blk (b := (⟨2, false, b3.w1, b3.ran, false, 0, b3.et, b3.cv, false, b3.p⟩ : GBlock)) (by rw [← HB3.out]; unfold stepB timerB runOn onB; simp [HX0.out, HO3.out, goB, stopB]) 0, HBL.out.trans (grown_Below g2 HBL.out.size (by omega))⟩
          | false =>
            have hh : ((World.setCell W3 ⟨W2.heap.size, 1, none⟩ (.bool false))).heap[w.heap.size + 1]? = some (.cells #[.int .u8 0, .bool false, .bool false, .bool false, .bool false, .int .i64 0, .int .i64 0, .int .i64 0, .bool false, .bool false] 25 (0, 0)) := ((heap_setCell_other _ ⟨W2.heap.size, 1, none⟩ (w.heap.size + 1) (.bool false) (by show w.heap.size + 1 ≠ W2.heap.size; omega)).trans RT.out)
            have hbl : Below w.heap.size w ((World.setCell W3 ⟨W2.heap.size, 1, none⟩ (.bool false))) := BT.out.trans (Below.setCell (Below.refl _ _) (by show w.heap.size ≤ W2.heap.size; omega) (.bool false))
            have HH := Fact.mk hh
            have HBL := Fact.mk hbl
            clear hh hbl
            obtain ⟨l0, l1, l2, l3, l4, l5, l6, l7, l8, l9, m0, m1, m2, m3, m4, m5, m6, m7, m8, m9⟩ := row10 RT.out
            go_wp2_with fail
            clear l0 l1 l2 l3 l4 l5 l6 l7 l8 l9 m0 m1 m2 m3 m4 m5 m6 m7 m8 m9
            obtain ⟨w2, e2, h2, g2⟩ := store10 HH.out (.int .u8 2) (.bool false) (.bool b3.w1) (.bool b3.ran) (.bool true) (.int .i64 b3.frm) (.int .i64 b3.et) (.int .i64 b3.cv) (.bool b3.q) (.bool b3.p)
            rw [e2]
            exact bodyPost_ret (res_cell_tmp Try.results19 _ w2 (w.heap.size + 1) rfl h2 Try.underlying25 rfl Try.sizeBlk) rfl ⟨ret_blk (b := (⟨2, false, b3.w1, b3.ran, true, b3.frm, b3.et, b3.cv, b3.q, b3.p⟩ : GBlock)) (by rw [← HB3.out]; unfold stepB timerB runOn onB; simp [HX0.out, HO3.out, goB]) 0, HBL.out.trans (grown_Below g2 HBL.out.size (by omega))⟩
        | false =>
          obtain ⟨l0, l1, l2, l3, l4, l5, l6, l7, l8, l9, m0, m1, m2, m3, m4, m5, m6, m7, m8, m9⟩ := row10 R2'.out
          go_wp2_with fail
          clear l0 l1 l2 l3 l4 l5 l6 l7 l8 l9 m0 m1 m2 m3 m4 m5 m6 m7 m8 m9
          obtain ⟨w2, e2, h2, g2⟩ := store10 R2'.out (.int .u8 2) (.bool false) (.bool w1) (.bool ran) (.bool going) (.int .i64 frm) (.int .i64 et) (.int .i64 cv) (.bool false) (.bool p)
          rw [e2]
          obtain ⟨y1, -, -⟩ := one_block w2 (Obj.cells #[.int .u8 2, .bool false, .bool w1, .bool ran, .bool going, .int .i64 frm, .int .i64 et, .int .i64 cv, .bool false, .bool p] 25)
          have sz := g2.size
          have hh : ((w2.alloc (Obj.cells #[.int .u8 2, .bool false, .bool w1, .bool ran, .bool going, .int .i64 frm, .int .i64 et, .int .i64 cv, .bool false, .bool p] 25))).heap[w.heap.size + 1]? = _ := (y1.block (w.heap.size + 1) (by omega)).trans h2
          exact bodyPost_ret (res_cell_tmp Try.results19 _ _ (w.heap.size + 1) rfl hh Try.underlying25 rfl Try.sizeBlk) rfl ⟨ret_blk (b := (⟨2, false, w1, ran, going, frm, et, cv, false, p⟩ : GBlock)) (by unfold stepB timerB onB; simp [HX0.out]) 0, B2.out.trans ((grown_Below g2 (by omega) (by omega)).trans (y1.mono (by omega)))⟩
end Go.Proofs.Ytjanofopmmndoaa

namespace Go.Proofs.Ytjanofopmmndoaa
open Go.RowKit
set_option maxRecDepth 100000 in
set_option maxHeartbeats 8000000 in
theorem rrun_7 (b : GBlock) (ins : List Int) (vs : Value) (now : Int) (w : World) (hr : Rd oneI64 1 w vs ins) (hk : b.kind = 7) (hm : mayB b ins now = 0) : Calls Try.prog 19 #[vBlk b, vs, .int .i64 now] w fun e w' => e = .returned (.tuple #[vBlk (stepB b ins now), .int .i64 0]) ∧ Below w.heap.size w w' := by
  obtain ⟨hrt, n1, n2, hok⟩ := mayB_ok hm
  obtain ⟨q1, q2, q3, q4, q5, q6⟩ := rightBlk_bnd hrt
  have hrr := refr_any b
  rw [hrt] at hrr
  rw [hk] at hok
  have hil : ins.length = 1 := by rw [← okIns_len hok]; rfl
  clear hm hrt
  obtain ⟨x0, rfl⟩ : ∃ x0, ins = [x0] := by
    match ins, hil with
    | [x0], _ => exact ⟨x0, rfl⟩
  have HOK := Fact.mk hok
  have HRd := Fact.mk hr
  obtain ⟨ik, io, ic, rfl, _⟩ := hr.at64 0 (by simp)
  clear hr hok hil
  obtain ⟨kind, w0, w1, ran, going, frm, et, cv, q, p⟩ := b
  obtain rfl : kind = 7 := hk
  unfold vBlk at hrr ⊢
  go_enter Try.func19, Try.ntmps19
  go_wp2_with fail
  refine (hrr _).mono ?_
  rintro e W1 ⟨rfl, hb1⟩
  obtain ⟨t1, t2, t3, t4⟩ := two_blocks w (Obj.cells #[.int .u8 7, .bool w0, .bool w1, .bool ran, .bool going, .int .i64 frm, .int .i64 et, .int .i64 cv, .bool q, .bool p] 25) (Obj.cells #[.int .u8 0, .bool false, .bool false, .bool false, .bool false, .int .i64 0, .int .i64 0, .int .i64 0, .bool false, .bool false] 25)
  have s1 : w.heap.size + 1 + 1 ≤ W1.heap.size := by have := hb1.size; rw [t4] at this; exact this
  have r1 := hb1.block w.heap.size (by rw [t4]; omega)
  rw [t2] at r1
  have r2 := hb1.block (w.heap.size + 1) (by rw [t4]; omega)
  rw [t3] at r2
  have B1 := Fact.mk (t1.trans (hb1.mono t1.size))
  have R1 := Fact.mk r1
  have R2 := Fact.mk r2
  have HS1 := Fact.mk s1
  obtain ⟨d0, -, -, -, -, -, -, -, -, -, -, -, -, -, -, -, -, -, -, -⟩ := row10 r1
  clear t1 t2 t3 t4 r1 r2 hb1 hrr s1
  go_wp2_with fail
  refine (rpins_any 7 (by decide) (by decide) _).mono ?_
  rintro e W2 ⟨v1, v2, rfl, ho1, ho2, hb2⟩
  obtain ⟨Ap, cp, rfl⟩ := ho1.slice2
  obtain ⟨A2, c2, rfl⟩ := ho2.slice2
  have HP := Fact.mk (ho1.rd oneU8_len)
  have r1 := hb2.block w.heap.size (by have := HS1.out; omega)
  rw [R1.out] at r1
  have r2 := hb2.block (w.heap.size + 1) (by have := HS1.out; omega)
  rw [R2.out] at r2
  have B2 := Fact.mk (B1.out.trans (hb2.mono B1.out.size))
  have S2 := Fact.mk r1
  have R2' := Fact.mk r2
  have lt1 : w.heap.size + 1 < W2.heap.size := by have := HS1.out; have := hb2.size; omega
  have lt0 : w.heap.size < W2.heap.size := by omega
  have hle : (pinsIn 7).length = 1 := rfl
  rw [hle]
  clear ho1 ho2 hb2 r1 r2 d0 hle
  obtain ⟨d0, d1, d2, d3, d4, d5, d6, d7, d8, d9, -, -, -, -, -, -, -, -, -, -⟩ := row10 S2.out
  go_wp2_with fail
  go_loop [10] (fun i => ∃ m : Nat, m ≤ 1 ∧ i = .int .i64 m) (fun i => 1 - (intOf i).toNat)
  case atStart => exact ⟨0, Nat.zero_le _, rfl⟩
  case round =>
    obtain ⟨m, hm, rfl⟩ := hrel
    by_cases hmp : m < 1
    · obtain ⟨bp, op, _, ep, qp⟩ : ∃ b off c, Value.slice Ap 1 cp = .slice (some ⟨b, off, none⟩) 1 c ∧ W2.cell? ⟨b, off + m, none⟩ = some (.int .u8 ((pinsIn 7)[m]'hmp)) := by
        obtain ⟨h0, A, c, e, h2, h4, h3⟩ := HP.out
        cases e
        obtain ⟨b, off, rfl, hc⟩ := h3 (by decide)
        have := hc m hmp 0 _ rfl
        rw [show off + m * 1 + 0 = off + m from by omega] at this
        exact ⟨b, off, _, rfl, this⟩
      cases ep
      obtain ⟨_, _, _, eo, qo⟩ := (HRd.out.below B2.out).at64 m hmp
      cases eo
      have hr := okIns_get HOK.out m hmp hmp
      have hx0 : ([x0] : List Int).getD m 0 = [x0][m]'hmp := by rw [List.getD_eq_getElem?_getD, List.getElem?_eq_getElem hmp]; rfl
      rw [hx0] at qo
      obtain ⟨t, ht⟩ : ∃ t, (pinsIn 7)[m]'hmp = t := ⟨_, rfl⟩
      obtain ⟨x, hx⟩ : ∃ x, ([x0] : List Int)[m]'hmp = x := ⟨_, rfl⟩
      rw [ht, hx] at hr
      rw [ht] at qp
      rw [hx] at qo
      have j1 : (m : Int) < 1 := by omega
      obtain ⟨lo, hlo⟩ : ∃ lo, (rangeOf t).1 = lo := ⟨_, rfl⟩
      obtain ⟨hi, hhi⟩ : ∃ hi, (rangeOf t).2 = hi := ⟨_, rfl⟩
      have hrg := rrange_any t W2
      unfold inR at hr
      rw [hlo, hhi] at hrg hr
      simp only [Bool.and_eq_true, decide_eq_true_eq] at hr
      obtain ⟨hr1, hr2⟩ := hr
      clear ht hx hx0 hlo hhi
      go_wp2_with (go_at_call 34; refine hrg.mono ?_; rintro e w' ⟨rfl, rfl⟩)
      go_round
      case rel => exact ⟨m + 1, by omega, by go_num⟩
      case measure => simp [intOf]; omega
    · obtain rfl : m = 1 := by omega
      clear hmp hm HP
      obtain ⟨_, _, _, eo, cx0⟩ := (HRd.out.below B2.out).at64 0 (by simp)
      cases eo
      replace cx0 : W2.cell? ⟨ik, io, none⟩ = some (.int .i64 x0) := cx0
      have ltk2 : ik < W2.heap.size := World.block_lt_of_cell? W2 _ cx0
      have RA : Fact (∀ o, (W2.alloc o).heap[w.heap.size + 1]? = some (.cells #[.int .u8 0, .bool false, .bool false, .bool false, .bool false, .int .i64 0, .int .i64 0, .int .i64 0, .bool false, .bool false] 25 (0, 0))) := ⟨fun o => ((one_block W2 o).1.block (w.heap.size + 1) lt1).trans R2'.out⟩
      have BELA : Fact (∀ o, Below w.heap.size w (W2.alloc o)) := ⟨fun o => B2.out.trans ((one_block W2 o).1.mono B2.out.size)⟩
      by_cases hbx0 : x0 = 1
      · have hx0e : (x0 == 1) = true := beq_iff_eq.2 hbx0
        have HX0 : Fact (decide (x0 = 1) = true) := ⟨decide_eq_true hbx0⟩
        clear hbx0
        cases w0 with
        | true =>
          obtain ⟨l0, l1, l2, l3, l4, l5, l6, l7, l8, l9, m0, m1, m2, m3, m4, m5, m6, m7, m8, m9⟩ := row10 R2'.out
          go_wp2_with fail
          clear l0 l1 l2 l3 l4 l5 l6 l7 l8 l9 m0 m1 m2 m3 m4 m5 m6 m7 m8 m9
          obtain ⟨w2, e2, h2, g2⟩ := store10 R2'.out (.int .u8 7) (.bool true) (.bool w1) (.bool ran) (.bool going) (.int .i64 frm) (.int .i64 et) (.int .i64 cv) (.bool false) (.bool p)
          rw [e2]
          obtain ⟨y1, -, -⟩ := one_block w2 (Obj.cells #[.int .u8 7, .bool true, .bool w1, .bool ran, .bool going, .int .i64 frm, .int .i64 et, .int .i64 cv, .bool false, .bool p] 25)
          have sz := g2.size
          have hh : ((w2.alloc (Obj.cells #[.int .u8 7, .bool true, .bool w1, .bool ran, .bool going, .int .i64 frm, .int .i64 et, .int .i64 cv, .bool false, .bool p] 25))).heap[w.heap.size + 1]? = _ := (y1.block (w.heap.size + 1) (by omega)).trans h2
          exact bodyPost_ret (res_cell_tmp Try.results19 _ _ (w.heap.size + 1) rfl hh Try.underlying25 rfl Try.sizeBlk) rfl ⟨ret_blk (b := (⟨7, true, w1, ran, going, frm, et, cv, false, p⟩ : GBlock)) (by unfold stepB onB; simp [HX0.out]) 0, B2.out.trans ((grown_Below g2 (by omega) (by omega)).trans (y1.mono (by omega)))⟩
        | false =>
          obtain ⟨l0, l1, l2, l3, l4, l5, l6, l7, l8, l9, m0, m1, m2, m3, m4, m5, m6, m7, m8, m9⟩ := row10 R2'.out
          go_wp2_with fail
          clear l0 l1 l2 l3 l4 l5 l6 l7 l8 l9 m0 m1 m2 m3 m4 m5 m6 m7 m8 m9
          obtain ⟨w2, e2, h2, g2⟩ := store10 R2'.out (.int .u8 7) (.bool true) (.bool w1) (.bool ran) (.bool going) (.int .i64 frm) (.int .i64 et) (.int .i64 cv) (.bool true) (.bool p)
          rw [e2]
          obtain ⟨y1, -, -⟩ := one_block w2 (Obj.cells #[.int .u8 7, .bool true, .bool w1, .bool ran, .bool going, .int .i64 frm, .int .i64 et, .int .i64 cv, .bool true, .bool p] 25)
          have sz := g2.size
          have hh : ((w2.alloc (Obj.cells #[.int .u8 7, .bool true, .bool w1, .bool ran, .bool going, .int .i64 frm, .int .i64 et, .int .i64 cv, .bool true, .bool p] 25))).heap[w.heap.size + 1]? = _ := (y1.block (w.heap.size + 1) (by omega)).trans h2
          exact bodyPost_ret (res_cell_tmp Try.results19 _ _ (w.heap.size + 1) rfl hh Try.underlying25 rfl Try.sizeBlk) rfl ⟨ret_blk (b := (⟨7, true, w1, ran, going, frm, et, cv, true, p⟩ : GBlock)) (by unfold stepB onB; simp [HX0.out]) 0, B2.out.trans ((grown_Below g2 (by omega) (by omega)).trans (y1.mono (by omega)))⟩
      · have hx0e : (x0 == 1) = false := beq_eq_false_iff_ne.2 hbx0
        have HX0 : Fact (decide (x0 = 1) = false) := ⟨decide_eq_false hbx0⟩
        clear hbx0
        obtain ⟨l0, l1, l2, l3, l4, l5, l6, l7, l8, l9, m0, m1, m2, m3, m4, m5, m6, m7, m8, m9⟩ := row10 R2'.out
        go_wp2_with fail
        clear l0 l1 l2 l3 l4 l5 l6 l7 l8 l9 m0 m1 m2 m3 m4 m5 m6 m7 m8 m9
        obtain ⟨w2, e2, h2, g2⟩ := store10 R2'.out (.int .u8 7) (.bool false) (.bool w1) (.bool ran) (.bool going) (.int .i64 frm) (.int .i64 et) (.int .i64 cv) (.bool false) (.bool p)
        rw [e2]
        obtain ⟨y1, -, -⟩ := one_block w2 (Obj.cells #[.int .u8 7, .bool false, .bool w1, .bool ran, .bool going, .int .i64 frm, .int .i64 et, .int .i64 cv, .bool false, .bool p] 25)
        have sz := g2.size
        have hh : ((w2.alloc (Obj.cells #[.int .u8 7, .bool false, .bool w1, .bool ran, .bool going, .int .i64 frm, .int .i64 et, .int .i64 cv, .bool false, .bool p] 25))).heap[w.heap.size + 1]? = _ := (y1.block (w.heap.size + 1) (by omega)).trans h2
        exact bodyPost_ret (res_cell_tmp Try.results19 _ _ (w.heap.size + 1) rfl hh Try.underlying25 rfl Try.sizeBlk) rfl ⟨ret_blk (b := (⟨7, false, w1, ran, going, frm, et, cv, false, p⟩ : GBlock)) (by unfold stepB onB; simp [HX0.out]) 0, B2.out.trans ((grown_Below g2 (by omega) (by omega)).trans (y1.mono (by omega)))⟩
end Go.Proofs.Ytjanofopmmndoaa

