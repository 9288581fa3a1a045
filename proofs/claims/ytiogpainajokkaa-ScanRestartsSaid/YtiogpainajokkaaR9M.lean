/- blocks.Run, kind 9. -/
import Derived.Test.YtiogpainajokkaaStep
import Derived.Test.YtiogpainajokkaaBlkM
namespace Go.Proofs.Ytiogpainajokkaa
open Go.RowKit
set_option maxRecDepth 100000 in
set_option maxHeartbeats 4000000 in
theorem run_9 (b : GBlock) (ins : List Int) (vs : Value) (now : Int) (w : World) (hr : Rd oneI64 1 w vs ins) (hk : b.kind = 9) (hm : mayB b ins now = 0) : Calls Try.prog 135 #[vBlk b, vs, .int .i64 now] w fun e w' => e = .returned (.tuple #[vBlk (stepB b ins now), .int .i64 0]) ∧ Below w.heap.size w w' := by
  obtain ⟨hrt, n1, n2, hok⟩ := mayB_ok hm
  obtain ⟨q1, q2, q3, q4, q5, q6⟩ := rightBlk_bnd hrt
  have hil : ins.length = 2 := by rw [← okIns_len hok, hk]; rfl
  have HRd := Fact.mk hr
  obtain ⟨ik, io, ic, rfl, hc⟩ := hr.at64 0 (by omega)
  have ltk : ik < w.heap.size := World.block_lt_of_cell? w _ hc
  rw [hil] at HRd ⊢
  obtain ⟨x, hx⟩ : ∃ x, ins.getD 0 0 = x := ⟨_, rfl⟩
  rw [hx] at hc
  have HX := Fact.mk (show onB ins 0 = decide (x = 1) by unfold onB; rw [hx])
  obtain ⟨kind, w0, w1, ran, going, frm, et, cv, q, p⟩ := b
  obtain rfl : kind = 9 := hk
  have hmay := may_any ⟨9, w0, w1, ran, going, frm, et, cv, q, p⟩ ins _ now _ (HRd.out.below (two_blocks w (Obj.cells #[.int .u8 9, .bool w0, .bool w1, .bool ran, .bool going, .int .i64 frm, .int .i64 et, .int .i64 cv, .bool q, .bool p] 67) (Obj.cells #[.int .u8 0, .bool false, .bool false, .bool false, .bool false, .int .i64 0, .int .i64 0, .int .i64 0, .bool false, .bool false] 67)).1)
  rw [hm] at hmay
  have HM := Fact.mk hm
  have HL := Fact.mk hil
  clear hr hm hx hok hrt hil
  unfold vBlk at hmay ⊢
  go_enter Try.func135, Try.ntmps135
  go_wp2_with fail
  refine hmay.mono ?_
  rintro e W1 ⟨rfl, hb1⟩
  obtain ⟨t1, t2, t3, t4⟩ := two_blocks w (Obj.cells #[.int .u8 9, .bool w0, .bool w1, .bool ran, .bool going, .int .i64 frm, .int .i64 et, .int .i64 cv, .bool q, .bool p] 67) (Obj.cells #[.int .u8 0, .bool false, .bool false, .bool false, .bool false, .int .i64 0, .int .i64 0, .int .i64 0, .bool false, .bool false] 67)
  have s1 : w.heap.size + 1 + 1 ≤ W1.heap.size := by have := hb1.size; rw [t4] at this; exact this
  have r1 := hb1.block w.heap.size (by rw [t4]; omega)
  rw [t2] at r1
  have r2 := hb1.block (w.heap.size + 1) (by rw [t4]; omega)
  rw [t3] at r2
  have B1 := Fact.mk (t1.trans (hb1.mono t1.size))
  have R2 := Fact.mk r2
  have hc1 : W1.cell? ⟨ik, io, none⟩ = some (.int .i64 x) := cell_below B1.out _ _ hc
  have RD1 := Fact.mk (HRd.out.below B1.out)
  obtain ⟨d0, d1, d2, d3, d4, d5, d6, d7, d8, d9, -, -, -, -, -, -, -, -, -, -⟩ := row10 r1
  clear t1 t2 t3 t4 r1 r2 hb1 hmay hc
  have HS1 := Fact.mk s1
  have ltk1 : ik < W1.heap.size := by omega
  have lt0 : w.heap.size < W1.heap.size := by omega
  have lt1 : w.heap.size + 1 < W1.heap.size := by omega
  clear s1
  by_cases hx1 : x = 1
  · have hxe : (x == 1) = true := beq_iff_eq.2 hx1
    have HON : Fact (onB ins 0 = true) := ⟨by rw [HX.out]; exact decide_eq_true hx1⟩
    clear hx1
    obtain ⟨l0, l1, l2, l3, l4, l5, l6, l7, l8, l9, m0, m1, m2, m3, m4, m5, m6, m7, m8, m9⟩ := row10 R2.out
    go_wp2_with fail
    clear l0 l1 l2 l3 l4 l5 l6 l7 l8 l9 m0 m1 m2 m3 m4 m5 m6 m7 m8 m9
    obtain ⟨w2, e2, h2, g2⟩ := store10 R2.out (.int .u8 9) (.bool w0) (.bool w1) (.bool ran) (.bool going) (.int .i64 frm) (.int .i64 et) (.int .i64 cv) (.bool true) (.bool p)
    rw [e2]
    obtain ⟨y1, -, -, -⟩ := two_blocks w2 (Obj.cells #[.int .u8 9, .bool w0, .bool w1, .bool ran, .bool going, .int .i64 frm, .int .i64 et, .int .i64 cv, .bool true, .bool p] 67) (Obj.cells #[.pointer (some ⟨W1.heap.size, 0, none⟩), .slice (some ⟨ik, io, none⟩) 2 ic, .int .i64 now, .bool (!w0), .bool false] 237)
    have sz := g2.size
    have hh := (y1.block (w.heap.size + 1) (by omega)).trans h2
    exact bodyPost_ret (res_cell_tmp Try.results135 _ _ (w.heap.size + 1) rfl hh Try.underlying67 rfl Try.sizeBlk) rfl ⟨ret_blk (b := (⟨9, w0, w1, ran, going, frm, et, cv, true, p⟩ : GBlock)) (by unfold stepB; rw [HON.out]; rfl) 0, B1.out.trans ((grown_Below g2 (by omega) (by omega)).trans (y1.mono (by omega)))⟩
  · have hxe : (x == 1) = false := beq_eq_false_iff_ne.2 hx1
    have HON : Fact (onB ins 0 = false) := ⟨by rw [HX.out]; exact decide_eq_false hx1⟩
    clear hx1
    obtain ⟨l0, l1, l2, l3, l4, l5, l6, l7, l8, l9, m0, m1, m2, m3, m4, m5, m6, m7, m8, m9⟩ := row10 R2.out
    cases q with
    | false =>
      go_wp2_with fail
      clear l0 l1 l2 l3 l4 l5 l6 l7 l8 l9 m0 m1 m2 m3 m4 m5 m6 m7 m8 m9
      obtain ⟨w2, e2, h2, g2⟩ := store10 R2.out (.int .u8 9) (.bool w0) (.bool w1) (.bool ran) (.bool going) (.int .i64 frm) (.int .i64 et) (.int .i64 cv) (.bool false) (.bool p)
      rw [e2]
      obtain ⟨y1, -, -, -⟩ := two_blocks w2 (Obj.cells #[.int .u8 9, .bool w0, .bool w1, .bool ran, .bool going, .int .i64 frm, .int .i64 et, .int .i64 cv, .bool false, .bool p] 67) (Obj.cells #[.pointer (some ⟨W1.heap.size, 0, none⟩), .slice (some ⟨ik, io, none⟩) 2 ic, .int .i64 now, .bool false, .bool w0] 237)
      have sz := g2.size
      have hh := (y1.block (w.heap.size + 1) (by omega)).trans h2
      exact bodyPost_ret (res_cell_tmp Try.results135 _ _ (w.heap.size + 1) rfl hh Try.underlying67 rfl Try.sizeBlk) rfl ⟨ret_blk (b := (⟨9, w0, w1, ran, going, frm, et, cv, false, p⟩ : GBlock)) (by unfold stepB; rw [HON.out]; rfl) 0, B1.out.trans ((grown_Below g2 (by omega) (by omega)).trans (y1.mono (by omega)))⟩
    | true =>
      cases hon1 : onB ins 1 with
      | true =>
        have HON1 := Fact.mk hon1
        clear hon1
        have hon := on_any _ (W1.heap.size + 1) W1.heap.size ins now false w0 (⟨9, w0, w1, ran, going, frm, et, cv, true, p⟩ : GBlock) (runSt_new (rise := false) (fall := w0) (now := now) (⟨9, w0, w1, ran, going, frm, et, cv, true, p⟩ : GBlock) RD1.out (own_ne (a := ⟨ik, io, none⟩) ltk1)) 1 (by have := HL.out; omega)
        rw [HON1.out] at hon
        go_wp2_with fail
        refine hon.mono ?_
        rintro e w' ⟨rfl, rfl⟩
        clear hon
        go_wp2_with fail
        clear l0 l1 l2 l3 l4 l5 l6 l7 l8 l9 m0 m1 m2 m3 m4 m5 m6 m7 m8 m9
        obtain ⟨w2, e2, h2, g2⟩ := store10 R2.out (.int .u8 9) (.bool w0) (.bool w1) (.bool ran) (.bool going) (.int .i64 frm) (.int .i64 et) (.int .i64 cv) (.bool false) (.bool p)
        rw [e2]
        obtain ⟨y1, -, -, -⟩ := two_blocks w2 (Obj.cells #[.int .u8 9, .bool w0, .bool w1, .bool ran, .bool going, .int .i64 frm, .int .i64 et, .int .i64 cv, .bool false, .bool p] 67) (Obj.cells #[.pointer (some ⟨W1.heap.size, 0, none⟩), .slice (some ⟨ik, io, none⟩) 2 ic, .int .i64 now, .bool false, .bool w0] 237)
        have sz := g2.size
        have hh := (y1.block (w.heap.size + 1) (by omega)).trans h2
        exact bodyPost_ret (res_cell_tmp Try.results135 _ _ (w.heap.size + 1) rfl hh Try.underlying67 rfl Try.sizeBlk) rfl ⟨ret_blk (b := (⟨9, w0, w1, ran, going, frm, et, cv, false, p⟩ : GBlock)) (by unfold stepB; rw [HON.out, HON1.out]; rfl) 0, B1.out.trans ((grown_Below g2 (by omega) (by omega)).trans (y1.mono (by omega)))⟩
      | false =>
        have HON1 := Fact.mk hon1
        clear hon1
        have hon := on_any _ (W1.heap.size + 1) W1.heap.size ins now false w0 (⟨9, w0, w1, ran, going, frm, et, cv, true, p⟩ : GBlock) (runSt_new (rise := false) (fall := w0) (now := now) (⟨9, w0, w1, ran, going, frm, et, cv, true, p⟩ : GBlock) RD1.out (own_ne (a := ⟨ik, io, none⟩) ltk1)) 1 (by have := HL.out; omega)
        rw [HON1.out] at hon
        go_wp2_with fail
        refine hon.mono ?_
        rintro e w' ⟨rfl, rfl⟩
        clear hon
        go_wp2_with fail
        clear l0 l1 l2 l3 l4 l5 l6 l7 l8 l9 m0 m1 m2 m3 m4 m5 m6 m7 m8 m9
        obtain ⟨w2, e2, h2, g2⟩ := store10 R2.out (.int .u8 9) (.bool w0) (.bool w1) (.bool ran) (.bool going) (.int .i64 frm) (.int .i64 et) (.int .i64 cv) (.bool true) (.bool p)
        rw [e2]
        obtain ⟨y1, -, -, -⟩ := two_blocks w2 (Obj.cells #[.int .u8 9, .bool w0, .bool w1, .bool ran, .bool going, .int .i64 frm, .int .i64 et, .int .i64 cv, .bool true, .bool p] 67) (Obj.cells #[.pointer (some ⟨W1.heap.size, 0, none⟩), .slice (some ⟨ik, io, none⟩) 2 ic, .int .i64 now, .bool false, .bool w0] 237)
        have sz := g2.size
        have hh := (y1.block (w.heap.size + 1) (by omega)).trans h2
        exact bodyPost_ret (res_cell_tmp Try.results135 _ _ (w.heap.size + 1) rfl hh Try.underlying67 rfl Try.sizeBlk) rfl ⟨ret_blk (b := (⟨9, w0, w1, ran, going, frm, et, cv, true, p⟩ : GBlock)) (by unfold stepB; rw [HON.out, HON1.out]; rfl) 0, B1.out.trans ((grown_Below g2 (by omega) (by omega)).trans (y1.mono (by omega)))⟩
end Go.Proofs.Ytiogpainajokkaa

namespace Go.Proofs.Ytiogpainajokkaa
open Go.RowKit
set_option maxRecDepth 100000 in
set_option maxHeartbeats 4000000 in
theorem run_10 (b : GBlock) (ins : List Int) (vs : Value) (now : Int) (w : World) (hr : Rd oneI64 1 w vs ins) (hk : b.kind = 10) (hm : mayB b ins now = 0) : Calls Try.prog 135 #[vBlk b, vs, .int .i64 now] w fun e w' => e = .returned (.tuple #[vBlk (stepB b ins now), .int .i64 0]) ∧ Below w.heap.size w w' := by
  obtain ⟨hrt, n1, n2, hok⟩ := mayB_ok hm
  obtain ⟨q1, q2, q3, q4, q5, q6⟩ := rightBlk_bnd hrt
  have hil : ins.length = 2 := by rw [← okIns_len hok, hk]; rfl
  have HRd := Fact.mk hr
  obtain ⟨ik, io, ic, rfl, hc⟩ := hr.at64 0 (by omega)
  have ltk : ik < w.heap.size := World.block_lt_of_cell? w _ hc
  rw [hil] at HRd ⊢
  obtain ⟨x, hx⟩ : ∃ x, ins.getD 0 0 = x := ⟨_, rfl⟩
  rw [hx] at hc
  have HX := Fact.mk (show onB ins 0 = decide (x = 1) by unfold onB; rw [hx])
  obtain ⟨kind, w0, w1, ran, going, frm, et, cv, q, p⟩ := b
  obtain rfl : kind = 10 := hk
  have hmay := may_any ⟨10, w0, w1, ran, going, frm, et, cv, q, p⟩ ins _ now _ (HRd.out.below (two_blocks w (Obj.cells #[.int .u8 10, .bool w0, .bool w1, .bool ran, .bool going, .int .i64 frm, .int .i64 et, .int .i64 cv, .bool q, .bool p] 67) (Obj.cells #[.int .u8 0, .bool false, .bool false, .bool false, .bool false, .int .i64 0, .int .i64 0, .int .i64 0, .bool false, .bool false] 67)).1)
  rw [hm] at hmay
  have HM := Fact.mk hm
  have HL := Fact.mk hil
  clear hr hm hx hok hrt hil
  unfold vBlk at hmay ⊢
  go_enter Try.func135, Try.ntmps135
  go_wp2_with fail
  refine hmay.mono ?_
  rintro e W1 ⟨rfl, hb1⟩
  obtain ⟨t1, t2, t3, t4⟩ := two_blocks w (Obj.cells #[.int .u8 10, .bool w0, .bool w1, .bool ran, .bool going, .int .i64 frm, .int .i64 et, .int .i64 cv, .bool q, .bool p] 67) (Obj.cells #[.int .u8 0, .bool false, .bool false, .bool false, .bool false, .int .i64 0, .int .i64 0, .int .i64 0, .bool false, .bool false] 67)
  have s1 : w.heap.size + 1 + 1 ≤ W1.heap.size := by have := hb1.size; rw [t4] at this; exact this
  have r1 := hb1.block w.heap.size (by rw [t4]; omega)
  rw [t2] at r1
  have r2 := hb1.block (w.heap.size + 1) (by rw [t4]; omega)
  rw [t3] at r2
  have B1 := Fact.mk (t1.trans (hb1.mono t1.size))
  have R2 := Fact.mk r2
  have hc1 : W1.cell? ⟨ik, io, none⟩ = some (.int .i64 x) := cell_below B1.out _ _ hc
  have RD1 := Fact.mk (HRd.out.below B1.out)
  obtain ⟨d0, d1, d2, d3, d4, d5, d6, d7, d8, d9, -, -, -, -, -, -, -, -, -, -⟩ := row10 r1
  clear t1 t2 t3 t4 r1 r2 hb1 hmay hc
  have HS1 := Fact.mk s1
  have ltk1 : ik < W1.heap.size := by omega
  have lt0 : w.heap.size < W1.heap.size := by omega
  have lt1 : w.heap.size + 1 < W1.heap.size := by omega
  clear s1
  by_cases hx1 : x = 1
  · have hxe : (x == 1) = true := beq_iff_eq.2 hx1
    have HON : Fact (onB ins 0 = true) := ⟨by rw [HX.out]; exact decide_eq_true hx1⟩
    clear hx1
    obtain ⟨l0, l1, l2, l3, l4, l5, l6, l7, l8, l9, m0, m1, m2, m3, m4, m5, m6, m7, m8, m9⟩ := row10 R2.out
    cases hon1 : onB ins 1 with
    | true =>
      have HON1 := Fact.mk hon1
      clear hon1
      have hon := on_any _ (W1.heap.size + 1) W1.heap.size ins now (!w0) false (⟨10, w0, w1, ran, going, frm, et, cv, q, p⟩ : GBlock) (runSt_new (rise := (!w0)) (fall := false) (now := now) (⟨10, w0, w1, ran, going, frm, et, cv, q, p⟩ : GBlock) RD1.out (own_ne (a := ⟨ik, io, none⟩) ltk1)) 1 (by have := HL.out; omega)
      rw [HON1.out] at hon
      go_wp2_with fail
      refine hon.mono ?_
      rintro e w' ⟨rfl, rfl⟩
      clear hon
      go_wp2_with fail
      clear l0 l1 l2 l3 l4 l5 l6 l7 l8 l9 m0 m1 m2 m3 m4 m5 m6 m7 m8 m9
      obtain ⟨w2, e2, h2, g2⟩ := store10 R2.out (.int .u8 10) (.bool w0) (.bool w1) (.bool ran) (.bool going) (.int .i64 frm) (.int .i64 et) (.int .i64 cv) (.bool false) (.bool p)
      rw [e2]
      obtain ⟨y1, -, -, -⟩ := two_blocks w2 (Obj.cells #[.int .u8 10, .bool w0, .bool w1, .bool ran, .bool going, .int .i64 frm, .int .i64 et, .int .i64 cv, .bool false, .bool p] 67) (Obj.cells #[.pointer (some ⟨W1.heap.size, 0, none⟩), .slice (some ⟨ik, io, none⟩) 2 ic, .int .i64 now, .bool (!w0), .bool false] 237)
      have sz := g2.size
      have hh := (y1.block (w.heap.size + 1) (by omega)).trans h2
      exact bodyPost_ret (res_cell_tmp Try.results135 _ _ (w.heap.size + 1) rfl hh Try.underlying67 rfl Try.sizeBlk) rfl ⟨ret_blk (b := (⟨10, w0, w1, ran, going, frm, et, cv, false, p⟩ : GBlock)) (by unfold stepB; rw [HON.out, HON1.out]; rfl) 0, B1.out.trans ((grown_Below g2 (by omega) (by omega)).trans (y1.mono (by omega)))⟩
    | false =>
      have HON1 := Fact.mk hon1
      clear hon1
      have hon := on_any _ (W1.heap.size + 1) W1.heap.size ins now (!w0) false (⟨10, w0, w1, ran, going, frm, et, cv, q, p⟩ : GBlock) (runSt_new (rise := (!w0)) (fall := false) (now := now) (⟨10, w0, w1, ran, going, frm, et, cv, q, p⟩ : GBlock) RD1.out (own_ne (a := ⟨ik, io, none⟩) ltk1)) 1 (by have := HL.out; omega)
      rw [HON1.out] at hon
      go_wp2_with fail
      refine hon.mono ?_
      rintro e w' ⟨rfl, rfl⟩
      clear hon
      go_wp2_with fail
      clear l0 l1 l2 l3 l4 l5 l6 l7 l8 l9 m0 m1 m2 m3 m4 m5 m6 m7 m8 m9
      obtain ⟨w2, e2, h2, g2⟩ := store10 R2.out (.int .u8 10) (.bool w0) (.bool w1) (.bool ran) (.bool going) (.int .i64 frm) (.int .i64 et) (.int .i64 cv) (.bool true) (.bool p)
      rw [e2]
      obtain ⟨y1, -, -, -⟩ := two_blocks w2 (Obj.cells #[.int .u8 10, .bool w0, .bool w1, .bool ran, .bool going, .int .i64 frm, .int .i64 et, .int .i64 cv, .bool true, .bool p] 67) (Obj.cells #[.pointer (some ⟨W1.heap.size, 0, none⟩), .slice (some ⟨ik, io, none⟩) 2 ic, .int .i64 now, .bool (!w0), .bool false] 237)
      have sz := g2.size
      have hh := (y1.block (w.heap.size + 1) (by omega)).trans h2
      exact bodyPost_ret (res_cell_tmp Try.results135 _ _ (w.heap.size + 1) rfl hh Try.underlying67 rfl Try.sizeBlk) rfl ⟨ret_blk (b := (⟨10, w0, w1, ran, going, frm, et, cv, true, p⟩ : GBlock)) (by unfold stepB; rw [HON.out, HON1.out]; rfl) 0, B1.out.trans ((grown_Below g2 (by omega) (by omega)).trans (y1.mono (by omega)))⟩
  · have hxe : (x == 1) = false := beq_eq_false_iff_ne.2 hx1
    have HON : Fact (onB ins 0 = false) := ⟨by rw [HX.out]; exact decide_eq_false hx1⟩
    clear hx1
    obtain ⟨l0, l1, l2, l3, l4, l5, l6, l7, l8, l9, m0, m1, m2, m3, m4, m5, m6, m7, m8, m9⟩ := row10 R2.out
    cases hon1 : onB ins 1 with
    | true =>
      have HON1 := Fact.mk hon1
      clear hon1
      have hon := on_any _ (W1.heap.size + 1) W1.heap.size ins now false w0 (⟨10, w0, w1, ran, going, frm, et, cv, q, p⟩ : GBlock) (runSt_new (rise := false) (fall := w0) (now := now) (⟨10, w0, w1, ran, going, frm, et, cv, q, p⟩ : GBlock) RD1.out (own_ne (a := ⟨ik, io, none⟩) ltk1)) 1 (by have := HL.out; omega)
      rw [HON1.out] at hon
      go_wp2_with fail
      refine hon.mono ?_
      rintro e w' ⟨rfl, rfl⟩
      clear hon
      go_wp2_with fail
      clear l0 l1 l2 l3 l4 l5 l6 l7 l8 l9 m0 m1 m2 m3 m4 m5 m6 m7 m8 m9
      obtain ⟨w2, e2, h2, g2⟩ := store10 R2.out (.int .u8 10) (.bool w0) (.bool w1) (.bool ran) (.bool going) (.int .i64 frm) (.int .i64 et) (.int .i64 cv) (.bool false) (.bool p)
      rw [e2]
      obtain ⟨y1, -, -, -⟩ := two_blocks w2 (Obj.cells #[.int .u8 10, .bool w0, .bool w1, .bool ran, .bool going, .int .i64 frm, .int .i64 et, .int .i64 cv, .bool false, .bool p] 67) (Obj.cells #[.pointer (some ⟨W1.heap.size, 0, none⟩), .slice (some ⟨ik, io, none⟩) 2 ic, .int .i64 now, .bool false, .bool w0] 237)
      have sz := g2.size
      have hh := (y1.block (w.heap.size + 1) (by omega)).trans h2
      exact bodyPost_ret (res_cell_tmp Try.results135 _ _ (w.heap.size + 1) rfl hh Try.underlying67 rfl Try.sizeBlk) rfl ⟨ret_blk (b := (⟨10, w0, w1, ran, going, frm, et, cv, false, p⟩ : GBlock)) (by unfold stepB; rw [HON.out, HON1.out]; rfl) 0, B1.out.trans ((grown_Below g2 (by omega) (by omega)).trans (y1.mono (by omega)))⟩
    | false =>
      have HON1 := Fact.mk hon1
      clear hon1
      have hon := on_any _ (W1.heap.size + 1) W1.heap.size ins now false w0 (⟨10, w0, w1, ran, going, frm, et, cv, q, p⟩ : GBlock) (runSt_new (rise := false) (fall := w0) (now := now) (⟨10, w0, w1, ran, going, frm, et, cv, q, p⟩ : GBlock) RD1.out (own_ne (a := ⟨ik, io, none⟩) ltk1)) 1 (by have := HL.out; omega)
      rw [HON1.out] at hon
      go_wp2_with fail
      refine hon.mono ?_
      rintro e w' ⟨rfl, rfl⟩
      clear hon
      go_wp2_with fail
      clear l0 l1 l2 l3 l4 l5 l6 l7 l8 l9 m0 m1 m2 m3 m4 m5 m6 m7 m8 m9
      obtain ⟨w2, e2, h2, g2⟩ := store10 R2.out (.int .u8 10) (.bool w0) (.bool w1) (.bool ran) (.bool going) (.int .i64 frm) (.int .i64 et) (.int .i64 cv) (.bool q) (.bool p)
      rw [e2]
      obtain ⟨y1, -, -, -⟩ := two_blocks w2 (Obj.cells #[.int .u8 10, .bool w0, .bool w1, .bool ran, .bool going, .int .i64 frm, .int .i64 et, .int .i64 cv, .bool q, .bool p] 67) (Obj.cells #[.pointer (some ⟨W1.heap.size, 0, none⟩), .slice (some ⟨ik, io, none⟩) 2 ic, .int .i64 now, .bool false, .bool w0] 237)
      have sz := g2.size
      have hh := (y1.block (w.heap.size + 1) (by omega)).trans h2
      exact bodyPost_ret (res_cell_tmp Try.results135 _ _ (w.heap.size + 1) rfl hh Try.underlying67 rfl Try.sizeBlk) rfl ⟨ret_blk (b := (⟨10, w0, w1, ran, going, frm, et, cv, q, p⟩ : GBlock)) (by unfold stepB; rw [HON.out, HON1.out]; rfl) 0, B1.out.trans ((grown_Below g2 (by omega) (by omega)).trans (y1.mono (by omega)))⟩
end Go.Proofs.Ytiogpainajokkaa

namespace Go.Proofs.Ytiogpainajokkaa
open Go.RowKit
set_option maxRecDepth 100000 in
set_option maxHeartbeats 4000000 in
theorem run_11 (b : GBlock) (ins : List Int) (vs : Value) (now : Int) (w : World) (hr : Rd oneI64 1 w vs ins) (hk : b.kind = 11) (hm : mayB b ins now = 0) : Calls Try.prog 135 #[vBlk b, vs, .int .i64 now] w fun e w' => e = .returned (.tuple #[vBlk (stepB b ins now), .int .i64 0]) ∧ Below w.heap.size w w' := by
  obtain ⟨hrt, n1, n2, hok⟩ := mayB_ok hm
  obtain ⟨q1, q2, q3, q4, q5, q6⟩ := rightBlk_bnd hrt
  have hil : ins.length = 3 := by rw [← okIns_len hok, hk]; rfl
  have HRd := Fact.mk hr
  obtain ⟨ik, io, ic, rfl, hc⟩ := hr.at64 0 (by omega)
  have ltk : ik < w.heap.size := World.block_lt_of_cell? w _ hc
  rw [hil] at HRd ⊢
  obtain ⟨x, hx⟩ : ∃ x, ins.getD 0 0 = x := ⟨_, rfl⟩
  rw [hx] at hc
  have HX := Fact.mk (show onB ins 0 = decide (x = 1) by unfold onB; rw [hx])
  obtain ⟨kind, w0, w1, ran, going, frm, et, cv, q, p⟩ := b
  obtain rfl : kind = 11 := hk
  have hmay := may_any ⟨11, w0, w1, ran, going, frm, et, cv, q, p⟩ ins _ now _ (HRd.out.below (two_blocks w (Obj.cells #[.int .u8 11, .bool w0, .bool w1, .bool ran, .bool going, .int .i64 frm, .int .i64 et, .int .i64 cv, .bool q, .bool p] 67) (Obj.cells #[.int .u8 0, .bool false, .bool false, .bool false, .bool false, .int .i64 0, .int .i64 0, .int .i64 0, .bool false, .bool false] 67)).1)
  rw [hm] at hmay
  have HM := Fact.mk hm
  have HL := Fact.mk hil
  clear hr hm hx hok hrt hil
  unfold vBlk at hmay ⊢
  go_enter Try.func135, Try.ntmps135
  go_wp2_with fail
  refine hmay.mono ?_
  rintro e W1 ⟨rfl, hb1⟩
  obtain ⟨t1, t2, t3, t4⟩ := two_blocks w (Obj.cells #[.int .u8 11, .bool w0, .bool w1, .bool ran, .bool going, .int .i64 frm, .int .i64 et, .int .i64 cv, .bool q, .bool p] 67) (Obj.cells #[.int .u8 0, .bool false, .bool false, .bool false, .bool false, .int .i64 0, .int .i64 0, .int .i64 0, .bool false, .bool false] 67)
  have s1 : w.heap.size + 1 + 1 ≤ W1.heap.size := by have := hb1.size; rw [t4] at this; exact this
  have r1 := hb1.block w.heap.size (by rw [t4]; omega)
  rw [t2] at r1
  have r2 := hb1.block (w.heap.size + 1) (by rw [t4]; omega)
  rw [t3] at r2
  have B1 := Fact.mk (t1.trans (hb1.mono t1.size))
  have R2 := Fact.mk r2
  have hc1 : W1.cell? ⟨ik, io, none⟩ = some (.int .i64 x) := cell_below B1.out _ _ hc
  have RD1 := Fact.mk (HRd.out.below B1.out)
  obtain ⟨d0, d1, d2, d3, d4, d5, d6, d7, d8, d9, -, -, -, -, -, -, -, -, -, -⟩ := row10 r1
  clear t1 t2 t3 t4 r1 r2 hb1 hmay hc
  have HS1 := Fact.mk s1
  have ltk1 : ik < W1.heap.size := by omega
  have lt0 : w.heap.size < W1.heap.size := by omega
  have lt1 : w.heap.size + 1 < W1.heap.size := by omega
  clear s1
  by_cases hx1 : x = 1
  · have hxe : (x == 1) = true := beq_iff_eq.2 hx1
    have HON : Fact (onB ins 0 = true) := ⟨by rw [HX.out]; exact decide_eq_true hx1⟩
    clear hx1
    go_wp2_with fail
    refine (disk_any _ (W1.heap.size + 1) W1.heap.size ins now (!w0) false (⟨11, w0, w1, ran, going, frm, et, cv, q, p⟩ : GBlock) _ _ _ (runSt_new (rise := (!w0)) (fall := false) (now := now) (⟨11, w0, w1, ran, going, frm, et, cv, q, p⟩ : GBlock) RD1.out (own_ne (a := ⟨ik, io, none⟩) ltk1)) HL.out rfl rfl rfl q5 q6).mono ?_
    rintro e W3 ⟨rfl, HR3, g3⟩
    obtain ⟨b3, hb3⟩ : ∃ b3, diskB (⟨11, w0, w1, ran, going, frm, et, cv, q, p⟩ : GBlock) (onB ins 0) (onB ins 1) (onB ins 2) = b3 := ⟨_, rfl⟩
    rw [hb3] at HR3
    have HB3 := Fact.mk hb3
    obtain ⟨y1, -, -, y4⟩ := two_blocks W1 (Obj.cells #[.int .u8 11, .bool w0, .bool w1, .bool ran, .bool going, .int .i64 frm, .int .i64 et, .int .i64 cv, .bool q, .bool p] 67) (Obj.cells #[.pointer (some ⟨W1.heap.size, 0, none⟩), .slice (some ⟨ik, io, none⟩) 3 ic, .int .i64 now, .bool (!w0), .bool false] 237)
    have rG := grown_other g3 ((y1.block (w.heap.size + 1) lt1).trans R2.out) (by omega)
    have B3 := Fact.mk (B1.out.trans ((y1.mono (by omega)).trans (grown_Below g3 (by rw [y4]; omega) (by omega))))
    clear hb3 y1 y4 g3 d0 d1 d2 d3 d4 d5 d6 d7 d8 d9 hc1 hxe
    obtain ⟨e0, e1, e2, e3, e4, e5, e6, e7, e8, e9, k0, k1, k2, k3, k4, k5, k6, k7, k8, k9⟩ := row10 HR3.blk
    obtain ⟨l0, l1, l2, l3, l4, l5, l6, l7, l8, l9, m0, m1, m2, m3, m4, m5, m6, m7, m8, m9⟩ := row10 rG
    have RG := Fact.mk rG
    have lt3 : W1.heap.size < W3.heap.size := (Array.getElem?_eq_some_iff.1 HR3.blk).1
    clear rG HR3
    go_wp2_with fail
    obtain ⟨w2, e2, h2, g2⟩ := store10 ((heap_setCell_other W3 ⟨W1.heap.size, 1, none⟩ (w.heap.size + 1) (.bool true) (by show w.heap.size + 1 ≠ W1.heap.size; omega)).trans RG.out) (.int .u8 b3.kind) (.bool true) (.bool b3.w1) (.bool b3.ran) (.bool b3.going) (.int .i64 b3.frm) (.int .i64 b3.et) (.int .i64 b3.cv) (.bool b3.q) (.bool b3.p)
    rw [e2]
    exact bodyPost_ret (res_cell_tmp Try.results135 _ w2 (w.heap.size + 1) rfl h2 Try.underlying67 rfl Try.sizeBlk) rfl ⟨ret_blk (b := { b3 with w0 := true }) (by rw [← HB3.out]; unfold stepB; rw [HON.out]; rfl) 0, B3.out.trans ((Below.setCell (Below.refl _ _) (by show w.heap.size ≤ W1.heap.size; omega) _).trans (grown_Below g2 (by simp only [size_set]; omega) (by omega)))⟩
  · have hxe : (x == 1) = false := beq_eq_false_iff_ne.2 hx1
    have HON : Fact (onB ins 0 = false) := ⟨by rw [HX.out]; exact decide_eq_false hx1⟩
    clear hx1
    go_wp2_with fail
    refine (disk_any _ (W1.heap.size + 1) W1.heap.size ins now false w0 (⟨11, w0, w1, ran, going, frm, et, cv, q, p⟩ : GBlock) _ _ _ (runSt_new (rise := false) (fall := w0) (now := now) (⟨11, w0, w1, ran, going, frm, et, cv, q, p⟩ : GBlock) RD1.out (own_ne (a := ⟨ik, io, none⟩) ltk1)) HL.out rfl rfl rfl q5 q6).mono ?_
    rintro e W3 ⟨rfl, HR3, g3⟩
    obtain ⟨b3, hb3⟩ : ∃ b3, diskB (⟨11, w0, w1, ran, going, frm, et, cv, q, p⟩ : GBlock) (onB ins 0) (onB ins 1) (onB ins 2) = b3 := ⟨_, rfl⟩
    rw [hb3] at HR3
    have HB3 := Fact.mk hb3
    obtain ⟨y1, -, -, y4⟩ := two_blocks W1 (Obj.cells #[.int .u8 11, .bool w0, .bool w1, .bool ran, .bool going, .int .i64 frm, .int .i64 et, .int .i64 cv, .bool q, .bool p] 67) (Obj.cells #[.pointer (some ⟨W1.heap.size, 0, none⟩), .slice (some ⟨ik, io, none⟩) 3 ic, .int .i64 now, .bool false, .bool w0] 237)
    have rG := grown_other g3 ((y1.block (w.heap.size + 1) lt1).trans R2.out) (by omega)
    have B3 := Fact.mk (B1.out.trans ((y1.mono (by omega)).trans (grown_Below g3 (by rw [y4]; omega) (by omega))))
    clear hb3 y1 y4 g3 d0 d1 d2 d3 d4 d5 d6 d7 d8 d9 hc1 hxe
    obtain ⟨e0, e1, e2, e3, e4, e5, e6, e7, e8, e9, k0, k1, k2, k3, k4, k5, k6, k7, k8, k9⟩ := row10 HR3.blk
    obtain ⟨l0, l1, l2, l3, l4, l5, l6, l7, l8, l9, m0, m1, m2, m3, m4, m5, m6, m7, m8, m9⟩ := row10 rG
    have RG := Fact.mk rG
    have lt3 : W1.heap.size < W3.heap.size := (Array.getElem?_eq_some_iff.1 HR3.blk).1
    clear rG HR3
    go_wp2_with fail
    obtain ⟨w2, e2, h2, g2⟩ := store10 ((heap_setCell_other W3 ⟨W1.heap.size, 1, none⟩ (w.heap.size + 1) (.bool false) (by show w.heap.size + 1 ≠ W1.heap.size; omega)).trans RG.out) (.int .u8 b3.kind) (.bool false) (.bool b3.w1) (.bool b3.ran) (.bool b3.going) (.int .i64 b3.frm) (.int .i64 b3.et) (.int .i64 b3.cv) (.bool b3.q) (.bool b3.p)
    rw [e2]
    exact bodyPost_ret (res_cell_tmp Try.results135 _ w2 (w.heap.size + 1) rfl h2 Try.underlying67 rfl Try.sizeBlk) rfl ⟨ret_blk (b := { b3 with w0 := false }) (by rw [← HB3.out]; unfold stepB; rw [HON.out]; rfl) 0, B3.out.trans ((Below.setCell (Below.refl _ _) (by show w.heap.size ≤ W1.heap.size; omega) _).trans (grown_Below g2 (by simp only [size_set]; omega) (by omega)))⟩
end Go.Proofs.Ytiogpainajokkaa

