/- The walk of ScanSigns. -/
import Derived.Test.YtiogpainajokkaaAwkM
import Derived.Test.YtiogpainajokkaaSwR
import Derived.Test.YtiogpainajokkaaSgnM
import Derived.StillTailTactics
import Derived.Deep.CutBlock
namespace Go.Proofs.Ytiogpainajokkaa
open Go.RowKit
theorem i64_wrap64 (n : Int) : IntKind.i64.wrap n = wrap64 n := by
  simp only [IntKind.wrap, IntKind.bits, IntKind.signed]
  unfold wrap64
  simp
  omega
/-- The statement's numbers in memory. -/
structure SwSt (w W : World) (pk px py : Nat) (k x y : Int) : Prop where
  bel : Below w.heap.size w W
  ck : W.cell? ⟨pk, 0, none⟩ = some (.int .u8 k)
  cx : W.cell? ⟨px, 0, none⟩ = some (.int .i64 x)
  cy : W.cell? ⟨py, 0, none⟩ = some (.int .i64 y)
theorem SwSt.below {w W W' : World} {pk px py : Nat} {k x y : Int} (h : SwSt w W pk px py k x y) (hb : Below W.heap.size W W') : SwSt w W' pk px py k x y :=
  ⟨h.bel.trans (hb.mono h.bel.size), cell_below hb _ _ h.ck, cell_below hb _ _ h.cx, cell_below hb _ _ h.cy⟩
set_option maxHeartbeats 8000000 in
set_option maxRecDepth 100000 in
theorem sgnW_any (t a b : Int) (ht : 0 ≤ t) (ht2 : t ≤ 255) (w : World) :
    Calls Try.prog 4 #[.int .u8 t, .int .i64 a, .int .i64 b] w fun e w' => e = .returned (.bool true) ∧ Below w.heap.size w w' := by
  obtain ⟨k, hk⟩ : ∃ k, 2 + t % 4 = k := ⟨_, rfl⟩
  have hkk : k = 2 ∨ k = 3 ∨ k = 4 ∨ k = 5 := by omega
  have ek : IntKind.u8.wrap (2 + t % 4) = k := by
    rw [hk]
    rcases hkk with rfl | rfl | rfl | rfl <;> rfl
  have HK := Fact.mk hkk
  have HKE := Fact.mk hk
  clear hkk
  go_enter Try.func4, Try.ntmps4
  go_upto_region 2 with (fail)
  obtain ⟨b1, r1, z1⟩ := one_block w (.cells #[.int .u8 k] 41)
  have B1 := Fact.mk b1
  have R1 := Fact.mk r1
  have l1 : w.heap.size < (w.alloc (.cells #[.int .u8 k] 41)).heap.size := by rw [z1]; omega
  have k1 : (w.alloc (.cells #[.int .u8 k] 41)).cell? ⟨w.heap.size, 0, none⟩ = some (.int .u8 k) := cell_of_row _ _ 0 _ _ _ r1
  clear b1 r1 z1
  generalize w.alloc (.cells #[.int .u8 k] 41) = w1 at *
  refine signs_region (K := w.heap.size) (k := k) (a0 := a) (b0 := b) k1 _ _ _ _ _ _ _ _ ?_
  intro u24 u25 u26 u27 u28 u29 px py w2 hb2 cx cy
  have ST := Fact.mk (SwSt.mk (w := w) (k := k) (x := wrapOf k a) (y := wrapOf k b) (B1.out.trans (hb2.mono B1.out.size)) (cell_below hb2 _ _ k1) cx cy)
  have ck := ST.out.ck
  have lk := World.block_lt_of_cell? w2 _ ck
  have lx := World.block_lt_of_cell? w2 _ cx
  have ly := World.block_lt_of_cell? w2 _ cy
  obtain ⟨x, hx⟩ : ∃ x, wrapOf k a = x := ⟨_, rfl⟩
  obtain ⟨y, hy⟩ : ∃ y, wrapOf k b = y := ⟨_, rfl⟩
  have IX : Fact (inR k x = true ∧ inR k y = true) := ⟨by rw [← hx, ← hy]; exact ⟨inR_wrap _ _, inR_wrap _ _⟩⟩
  rw [hx] at ST cx
  rw [hy] at ST cy
  clear hx hy hb2 k1 l1 R1 B1
  go_upto_region 6 with (fail)
  obtain ⟨bb, ra, rb, zb⟩ := two_blocks w2 (.cells #[.int .u8 4, .int .u8 5, .int .u8 6, .int .u8 9, .int .u8 10, .int .u8 11] 53) (.cells #[.int .i64 (wrap64 (x + y)), .int .i64 (wrap64 (x - y)), .int .i64 (wrap64 (x * y)), .int .i64 (bits .and .i64 x y), .int .i64 (bits .or .i64 x y), .int .i64 (bits .xor .i64 x y)] 54)
  have ST3 := Fact.mk (ST.out.below bb)
  have RA := Fact.mk ra
  have RB := Fact.mk rb
  have LB := Fact.mk zb
  clear bb ra rb zb ck cx cy lk lx ly ST
  generalize (w2.alloc (.cells #[.int .u8 4, .int .u8 5, .int .u8 6, .int .u8 9, .int .u8 10, .int .u8 11] 53)).alloc (.cells #[.int .i64 (wrap64 (x + y)), .int .i64 (wrap64 (x - y)), .int .i64 (wrap64 (x * y)), .int .i64 (bits .and .i64 x y), .int .i64 (bits .or .i64 x y), .int .i64 (bits .xor .i64 x y)] 54) = w3 at *
  have DO := Fact.mk (fun (o : Int) (ho : o = 4 ∨ o = 5 ∨ o = 6 ∨ o = 7 ∨ o = 8 ∨ o = 9 ∨ o = 10 ∨ o = 11) W (hW : SwSt w W w.heap.size px py k x y) => does_any k o x y HK.out ho IX.out.1 IX.out.2 w.heap.size px py W hW.ck hW.cx hW.cy)
  obtain ⟨a0, a1, a2, a3, a4, a5⟩ : w3.cell? ⟨w2.heap.size, 0, none⟩ = some (.int .u8 4) ∧ w3.cell? ⟨w2.heap.size, 1, none⟩ = some (.int .u8 5) ∧ w3.cell? ⟨w2.heap.size, 2, none⟩ = some (.int .u8 6) ∧ w3.cell? ⟨w2.heap.size, 3, none⟩ = some (.int .u8 9) ∧ w3.cell? ⟨w2.heap.size, 4, none⟩ = some (.int .u8 10) ∧ w3.cell? ⟨w2.heap.size, 5, none⟩ = some (.int .u8 11) := ⟨cell_of_row _ _ 0 _ _ _ RA.out, cell_of_row _ _ 1 _ _ _ RA.out, cell_of_row _ _ 2 _ _ _ RA.out, cell_of_row _ _ 3 _ _ _ RA.out, cell_of_row _ _ 4 _ _ _ RA.out, cell_of_row _ _ 5 _ _ _ RA.out⟩
  go_wp2_with fail
  go_loopw [52] (fun i wr => ∃ j : Nat, j ≤ 6 ∧ i = .int .i64 j ∧ Fact (Below w3.heap.size w3 wr)) (fun i _ => 6 - (intOf i).toNat)
  case atStart => exact ⟨0, by omega, rfl, ⟨Below.refl _ _⟩⟩
  case round =>
    obtain ⟨j, hj, rfl, HB⟩ := hrel
    by_cases hlt : j < 6
    · have BW := Fact.mk (ST3.out.below HB.out)
      have ck := BW.out.ck
      have lk := World.block_lt_of_cell? wr _ ck
      rcases (by omega : j = 0 ∨ j = 1 ∨ j = 2 ∨ j = 3 ∨ j = 4 ∨ j = 5) with rfl | rfl | rfl | rfl | rfl | rfl
      · have DJ := Fact.mk (DO.out 4 (by omega) wr BW.out)
        have hix : ∀ W, (Instr.index 53 (.agg #[.int .u8 4, .int .u8 5, .int .u8 6, .int .u8 9, .int .u8 10, .int .u8 11]) (.int .i64 0)).run Try.prog W = .ok (.int .u8 4) W := fun _ => by kernel_rfl
        rw [show sgnR k 4 x y = (signB 4 k x y, 4, 0) from if_neg (by omega)] at DJ
        have bj : wr.cell? ⟨w2.heap.size + 1, 0, none⟩ = some (.int .i64 (wrap64 (x + y))) := cell_below HB.out _ _ (cell_of_row _ _ 0 _ _ _ RB.out)
        have es : (signB 4 k x y != wrapOf k (wrap64 (x + y))) = false := by show (wrapOf k (wrap64 (x + y)) != wrapOf k (wrap64 (x + y))) = false; exact bne_self_eq_false _
        have WQ := Fact.mk (wrap_quiet k (wrap64 (x + y)))
        go_wp2_with fail
        refine DJ.out.mono ?_
        rintro e W4 ⟨rfl, hb4⟩
        have B4 := Fact.mk (HB.out.trans (hb4.mono HB.out.size))
        replace ck := cell_below hb4 _ _ ck
        replace bj := cell_below hb4 _ _ bj
        clear hb4 DJ BW lk
        go_wp2_with fail
        go_quiet ((go_at_call 19; exact Calls.quiet_of (WQ.out _ _)))
        clear ck bj WQ
        go_wp2_with fail
        go_roundw
        case rel => exact ⟨1, by omega, by go_num, ⟨drewN_below B4.out _⟩⟩
        case measure => simp [intOf]
      · have DJ := Fact.mk (DO.out 5 (by omega) wr BW.out)
        have hix : ∀ W, (Instr.index 53 (.agg #[.int .u8 4, .int .u8 5, .int .u8 6, .int .u8 9, .int .u8 10, .int .u8 11]) (.int .i64 1)).run Try.prog W = .ok (.int .u8 5) W := fun _ => by kernel_rfl
        rw [show sgnR k 5 x y = (signB 5 k x y, 4, 0) from if_neg (by omega)] at DJ
        have bj : wr.cell? ⟨w2.heap.size + 1, 1, none⟩ = some (.int .i64 (wrap64 (x - y))) := cell_below HB.out _ _ (cell_of_row _ _ 1 _ _ _ RB.out)
        have es : (signB 5 k x y != wrapOf k (wrap64 (x - y))) = false := by show (wrapOf k (wrap64 (x - y)) != wrapOf k (wrap64 (x - y))) = false; exact bne_self_eq_false _
        have WQ := Fact.mk (wrap_quiet k (wrap64 (x - y)))
        go_wp2_with fail
        refine DJ.out.mono ?_
        rintro e W4 ⟨rfl, hb4⟩
        have B4 := Fact.mk (HB.out.trans (hb4.mono HB.out.size))
        replace ck := cell_below hb4 _ _ ck
        replace bj := cell_below hb4 _ _ bj
        clear hb4 DJ BW lk
        go_wp2_with fail
        go_quiet ((go_at_call 19; exact Calls.quiet_of (WQ.out _ _)))
        clear ck bj WQ
        go_wp2_with fail
        go_roundw
        case rel => exact ⟨2, by omega, by go_num, ⟨drewN_below B4.out _⟩⟩
        case measure => simp [intOf]
      · have DJ := Fact.mk (DO.out 6 (by omega) wr BW.out)
        have hix : ∀ W, (Instr.index 53 (.agg #[.int .u8 4, .int .u8 5, .int .u8 6, .int .u8 9, .int .u8 10, .int .u8 11]) (.int .i64 2)).run Try.prog W = .ok (.int .u8 6) W := fun _ => by kernel_rfl
        rw [show sgnR k 6 x y = (signB 6 k x y, 4, 0) from if_neg (by omega)] at DJ
        have bj : wr.cell? ⟨w2.heap.size + 1, 2, none⟩ = some (.int .i64 (wrap64 (x * y))) := cell_below HB.out _ _ (cell_of_row _ _ 2 _ _ _ RB.out)
        have es : (signB 6 k x y != wrapOf k (wrap64 (x * y))) = false := by show (wrapOf k (wrap64 (x * y)) != wrapOf k (wrap64 (x * y))) = false; exact bne_self_eq_false _
        have WQ := Fact.mk (wrap_quiet k (wrap64 (x * y)))
        go_wp2_with fail
        refine DJ.out.mono ?_
        rintro e W4 ⟨rfl, hb4⟩
        have B4 := Fact.mk (HB.out.trans (hb4.mono HB.out.size))
        replace ck := cell_below hb4 _ _ ck
        replace bj := cell_below hb4 _ _ bj
        clear hb4 DJ BW lk
        go_wp2_with fail
        go_quiet ((go_at_call 19; exact Calls.quiet_of (WQ.out _ _)))
        clear ck bj WQ
        go_wp2_with fail
        go_roundw
        case rel => exact ⟨3, by omega, by go_num, ⟨drewN_below B4.out _⟩⟩
        case measure => simp [intOf]
      · have DJ := Fact.mk (DO.out 9 (by omega) wr BW.out)
        have hix : ∀ W, (Instr.index 53 (.agg #[.int .u8 4, .int .u8 5, .int .u8 6, .int .u8 9, .int .u8 10, .int .u8 11]) (.int .i64 3)).run Try.prog W = .ok (.int .u8 9) W := fun _ => by kernel_rfl
        rw [show sgnR k 9 x y = (signB 9 k x y, 4, 0) from if_neg (by omega)] at DJ
        have bj : wr.cell? ⟨w2.heap.size + 1, 3, none⟩ = some (.int .i64 (bits .and .i64 x y)) := cell_below HB.out _ _ (cell_of_row _ _ 3 _ _ _ RB.out)
        have es : (signB 9 k x y != wrapOf k (bits .and .i64 x y)) = false := by show (wrapOf k (bits .and .i64 x y) != wrapOf k (bits .and .i64 x y)) = false; exact bne_self_eq_false _
        have WQ := Fact.mk (wrap_quiet k (bits .and .i64 x y))
        go_wp2_with fail
        refine DJ.out.mono ?_
        rintro e W4 ⟨rfl, hb4⟩
        have B4 := Fact.mk (HB.out.trans (hb4.mono HB.out.size))
        replace ck := cell_below hb4 _ _ ck
        replace bj := cell_below hb4 _ _ bj
        clear hb4 DJ BW lk
        go_wp2_with fail
        go_quiet ((go_at_call 19; exact Calls.quiet_of (WQ.out _ _)))
        clear ck bj WQ
        go_wp2_with fail
        go_roundw
        case rel => exact ⟨4, by omega, by go_num, ⟨drewN_below B4.out _⟩⟩
        case measure => simp [intOf]
      · have DJ := Fact.mk (DO.out 10 (by omega) wr BW.out)
        have hix : ∀ W, (Instr.index 53 (.agg #[.int .u8 4, .int .u8 5, .int .u8 6, .int .u8 9, .int .u8 10, .int .u8 11]) (.int .i64 4)).run Try.prog W = .ok (.int .u8 10) W := fun _ => by kernel_rfl
        rw [show sgnR k 10 x y = (signB 10 k x y, 4, 0) from if_neg (by omega)] at DJ
        have bj : wr.cell? ⟨w2.heap.size + 1, 4, none⟩ = some (.int .i64 (bits .or .i64 x y)) := cell_below HB.out _ _ (cell_of_row _ _ 4 _ _ _ RB.out)
        have es : (signB 10 k x y != wrapOf k (bits .or .i64 x y)) = false := by show (wrapOf k (bits .or .i64 x y) != wrapOf k (bits .or .i64 x y)) = false; exact bne_self_eq_false _
        have WQ := Fact.mk (wrap_quiet k (bits .or .i64 x y))
        go_wp2_with fail
        refine DJ.out.mono ?_
        rintro e W4 ⟨rfl, hb4⟩
        have B4 := Fact.mk (HB.out.trans (hb4.mono HB.out.size))
        replace ck := cell_below hb4 _ _ ck
        replace bj := cell_below hb4 _ _ bj
        clear hb4 DJ BW lk
        go_wp2_with fail
        go_quiet ((go_at_call 19; exact Calls.quiet_of (WQ.out _ _)))
        clear ck bj WQ
        go_wp2_with fail
        go_roundw
        case rel => exact ⟨5, by omega, by go_num, ⟨drewN_below B4.out _⟩⟩
        case measure => simp [intOf]
      · have DJ := Fact.mk (DO.out 11 (by omega) wr BW.out)
        have hix : ∀ W, (Instr.index 53 (.agg #[.int .u8 4, .int .u8 5, .int .u8 6, .int .u8 9, .int .u8 10, .int .u8 11]) (.int .i64 5)).run Try.prog W = .ok (.int .u8 11) W := fun _ => by kernel_rfl
        rw [show sgnR k 11 x y = (signB 11 k x y, 4, 0) from if_neg (by omega)] at DJ
        have bj : wr.cell? ⟨w2.heap.size + 1, 5, none⟩ = some (.int .i64 (bits .xor .i64 x y)) := cell_below HB.out _ _ (cell_of_row _ _ 5 _ _ _ RB.out)
        have es : (signB 11 k x y != wrapOf k (bits .xor .i64 x y)) = false := by show (wrapOf k (bits .xor .i64 x y) != wrapOf k (bits .xor .i64 x y)) = false; exact bne_self_eq_false _
        have WQ := Fact.mk (wrap_quiet k (bits .xor .i64 x y))
        go_wp2_with fail
        refine DJ.out.mono ?_
        rintro e W4 ⟨rfl, hb4⟩
        have B4 := Fact.mk (HB.out.trans (hb4.mono HB.out.size))
        replace ck := cell_below hb4 _ _ ck
        replace bj := cell_below hb4 _ _ bj
        clear hb4 DJ BW lk
        go_wp2_with fail
        go_quiet ((go_at_call 19; exact Calls.quiet_of (WQ.out _ _)))
        clear ck bj WQ
        go_wp2_with fail
        go_roundw
        case rel => exact ⟨6, by omega, by go_num, ⟨drewN_below B4.out _⟩⟩
        case measure => simp [intOf]
    · obtain rfl : j = 6 := by omega
      have BW := Fact.mk (ST3.out.below HB.out)
      clear ST3 RA RB LB a0 a1 a2 a3 a4 a5 HB
      by_cases h0 : y = 0
      · have D7 := Fact.mk (DO.out 7 (by omega) wr BW.out)
        have D8 := Fact.mk (fun W (hW : SwSt w W w.heap.size px py k x y) => DO.out 8 (by omega) W hW)
        rw [show sgnR k 7 x y = (0, 2, 162) from if_pos ⟨.inl rfl, h0⟩] at D7
        rw [show sgnR k 8 x y = (0, 2, 162) from if_pos ⟨.inr rfl, h0⟩] at D8
        have ey : (y == 0) = true := beq_iff_eq.2 h0
        clear h0 DO
        go_wp2_with fail
        refine D7.out.mono ?_
        rintro e W4 ⟨rfl, hb4⟩
        have B4 := Fact.mk (BW.out.below hb4)
        clear hb4 D7 BW
        go_wp2_with fail
        refine (D8.out _ B4.out).mono ?_
        rintro e W5 ⟨rfl, hb5⟩
        have B5 := Fact.mk (B4.out.below hb5)
        have cy := B5.out.cy
        clear hb5 D8 B4
        go_wp2_with fail
        refine (awkS_any _).mono ?_
        rintro e W6 ⟨rfl, hb6⟩
        have B6 := Fact.mk (B5.out.below hb6).bel
        clear hb6 B5 cy
        go_wp2
        go_ret
        exact ⟨rfl, B6.out⟩
      · have D7 := Fact.mk (DO.out 7 (by omega) wr BW.out)
        have D8 := Fact.mk (fun W (hW : SwSt w W w.heap.size px py k x y) => DO.out 8 (by omega) W hW)
        rw [show sgnR k 7 x y = (signB 7 k x y, 4, 0) from if_neg (fun h => h0 h.2)] at D7
        rw [show sgnR k 8 x y = (signB 8 k x y, 4, 0) from if_neg (fun h => h0 h.2)] at D8
        have QL := sgn_quot HK.out IX.out.1 IX.out.2 h0
        have ey : (y == 0) = false := beq_eq_false_iff_ne.2 h0
        generalize signB 7 k x y = qq at D7 QL
        generalize signB 8 k x y = rr at D8 QL
        have WC : Fact (∀ (W : World), Calls Try.prog 19 #[.int .u8 k, .int .i64 (IntKind.i64.wrap (IntKind.i64.wrap (qq * y) + rr))] W fun e w' => e = .returned (.int .i64 x) ∧ w' = W) := ⟨fun W => by
          rw [i64_wrap64, i64_wrap64]
          exact (wrap_any k _ W).mono fun _ _ h => ⟨QL.1 ▸ h.1, h.2.symm⟩⟩
        have QR := Fact.mk QL.2
        clear h0 DO QL
        go_wp2_with fail
        refine D7.out.mono ?_
        rintro e W4 ⟨rfl, hb4⟩
        have B4 := Fact.mk (BW.out.below hb4)
        clear hb4 D7 BW
        go_wp2_with fail
        refine (D8.out _ B4.out).mono ?_
        rintro e W5 ⟨rfl, hb5⟩
        have B5 := Fact.mk (B4.out.below hb5)
        have cy := B5.out.cy
        have ck := B5.out.ck
        have cx := B5.out.cx
        have ex : (x == x) = true := beq_self_eq_true x
        clear hb5 D8 B4
        go_upto_region 17 with (fail)
        clear ck cx cy ex
        by_cases hr : rr = 0
        · have e0 : (rr == 0) = true := beq_iff_eq.2 hr
          clear hr QR
          refine still_tail 29 (by kernel_rfl) (by kernel_rfl) (fun W => SwSt w W w.heap.size px py k x y) (B5.out.below (Below.refl _ _).drew) ?_
          rintro W hW
          have BW := Fact.mk hW.bel
          have ck := hW.ck
          have cx := hW.cx
          have cy := hW.cy
          clear hW B5
          simp only [List.take_succ_cons, List.take_zero, List.drop_succ_cons, List.drop_zero]
          repeat still_step
          still_call (WC.out _)
          repeat still_step
          refine wpStill_nil ?_
          clear ck cx cy
          go_wp2_with fail
          refine (awkS_any _).mono ?_
          rintro e W6 ⟨rfl, hb6⟩
          have B6 := Fact.mk (BW.out.trans (hb6.mono BW.out.size))
          clear hb6
          go_wp2
          go_ret
          exact ⟨rfl, B6.out⟩
        · have e0 : (rr == 0) = false := beq_eq_false_iff_ne.2 hr
          have hq := QR.out.resolve_left hr
          clear hr QR
          by_cases hx : x < 0
          · have d1 : decide (x < 0) = true := decide_eq_true hx
            rw [d1] at hq
            clear hx
            refine still_tail 29 (by kernel_rfl) (by kernel_rfl) (fun W => SwSt w W w.heap.size px py k x y) (B5.out.below (Below.refl _ _).drew) ?_
            rintro W hW
            have BW := Fact.mk hW.bel
            have ck := hW.ck
            have cx := hW.cx
            have cy := hW.cy
            clear hW B5
            simp only [List.take_succ_cons, List.take_zero, List.drop_succ_cons, List.drop_zero]
            repeat still_step
            still_call (WC.out _)
            repeat still_step
            refine wpStill_nil ?_
            clear ck cx cy
            go_wp2_with fail
            refine (awkS_any _).mono ?_
            rintro e W6 ⟨rfl, hb6⟩
            have B6 := Fact.mk (BW.out.trans (hb6.mono BW.out.size))
            clear hb6
            go_wp2
            go_ret
            exact ⟨rfl, B6.out⟩
          · have d1 : decide (x < 0) = false := decide_eq_false hx
            rw [d1] at hq
            clear hx
            refine still_tail 29 (by kernel_rfl) (by kernel_rfl) (fun W => SwSt w W w.heap.size px py k x y) (B5.out.below (Below.refl _ _).drew) ?_
            rintro W hW
            have BW := Fact.mk hW.bel
            have ck := hW.ck
            have cx := hW.cx
            have cy := hW.cy
            clear hW B5
            simp only [List.take_succ_cons, List.take_zero, List.drop_succ_cons, List.drop_zero]
            repeat still_step
            still_call (WC.out _)
            repeat still_step
            refine wpStill_nil ?_
            clear ck cx cy
            go_wp2_with fail
            refine (awkS_any _).mono ?_
            rintro e W6 ⟨rfl, hb6⟩
            have B6 := Fact.mk (BW.out.trans (hb6.mono BW.out.size))
            clear hb6
            go_wp2
            go_ret
            exact ⟨rfl, B6.out⟩
end Go.Proofs.Ytiogpainajokkaa

