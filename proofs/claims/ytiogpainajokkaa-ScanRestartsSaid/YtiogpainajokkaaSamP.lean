/- blockhouselaw16.Same: a state is the same as one that holds the same. -/
import Derived.Test.YtiogpainajokkaaFtsM
import Derived.Test.YtiogpainajokkaaAwkM
import Derived.Test.YtiogpainajokkaaRBlkM
namespace Go.Proofs.Ytiogpainajokkaa
open Go.RowKit
set_option maxHeartbeats 4000000 in
set_option maxRecDepth 100000 in
theorem psame_any (s : GPlant) (sv sb tv tb : Value) (w : World) (h1 : PlRd w s sv sb) (h2 : PlRd w s tv tb) :
    Calls Try.prog 17 #[.agg #[sv, sb], .agg #[tv, tb]] w fun e w' => e = .returned (.bool true) ∧ Below w.heap.size w w' := by
  have hsv := h1.v
  have htv := h2.v
  obtain ⟨A1, c1, rfl⟩ : ∃ A c', sv = .slice A s.vars.length c' := by obtain ⟨_, A, c', h, _⟩ := hsv; exact ⟨A, c', h⟩
  obtain ⟨A2, c2, rfl⟩ : ∃ A c', tv = .slice A s.vars.length c' := by obtain ⟨_, A, c', h, _⟩ := htv; exact ⟨A, c', h⟩
  obtain ⟨lx, A3, c3, rfl, _, _, q1⟩ := h1.b
  obtain ⟨_, A4, c4, rfl, _, _, q2⟩ := h2.b
  obtain ⟨b2, r2, r3, z2⟩ := two_blocks w (.cells #[.slice A1 s.vars.length c1, .slice A3 s.blocks.length c3] 34) (.cells #[.slice A2 s.vars.length c2, .slice A4 s.blocks.length c4] 34)
  have B2 := Fact.mk b2
  have R2 := Fact.mk r2
  have R3 := Fact.mk r3
  have SM := Fact.mk (same64_any _ _ _ _ _ (hsv.below b2) (htv.below b2))
  rw [decide_eq_true (rfl : s.vars = s.vars)] at SM
  have Q1 := Fact.mk q1
  have Q2 := Fact.mk q2
  have l0 : w.heap.size + 1 < ((w.alloc (.cells #[.slice A1 s.vars.length c1, .slice A3 s.blocks.length c3] 34)).alloc (.cells #[.slice A2 s.vars.length c2, .slice A4 s.blocks.length c4] 34)).heap.size := by rw [z2]; omega
  clear b2 r2 r3 z2 q1 q2 hsv htv h1 h2
  go_enter Try.func17, Try.ntmps17
  go_upto_region 1 with (fail)
  generalize (w.alloc (.cells #[.slice A1 s.vars.length c1, .slice A3 s.blocks.length c3] 34)).alloc (.cells #[.slice A2 s.vars.length c2, .slice A4 s.blocks.length c4] 34) = w2 at *
  obtain ⟨k0, k1, k2, k3⟩ : w2.cell? ⟨w.heap.size, 0, none⟩ = some (.slice A1 s.vars.length c1) ∧ w2.cell? ⟨w.heap.size, 1, none⟩ = some (.slice A3 s.blocks.length c3) ∧ w2.cell? ⟨w.heap.size + 1, 0, none⟩ = some (.slice A2 s.vars.length c2) ∧ w2.cell? ⟨w.heap.size + 1, 1, none⟩ = some (.slice A4 s.blocks.length c4) := ⟨cell_of_row _ _ 0 _ _ _ R2.out, cell_of_row _ _ 1 _ _ _ R2.out, cell_of_row _ _ 0 _ _ _ R3.out, cell_of_row _ _ 1 _ _ _ R3.out⟩
  go_wp2_with fail
  refine SM.out.mono ?_
  rintro e W3 ⟨rfl, hb3⟩
  have B3 := Fact.mk (B2.out.trans (hb3.mono B2.out.size))
  replace k1 := cell_below hb3 _ _ k1
  replace k3 := cell_below hb3 _ _ k3
  replace l0 := Nat.lt_of_lt_of_le l0 hb3.size
  have l1 : w.heap.size < W3.heap.size := by omega
  clear k0 k2 hb3 R2 R3 B2 SM
  go_wp2_with fail
  go_loopw [24] (fun i wr => ∃ k : Nat, k ≤ s.blocks.length ∧ i = .int .i64 k ∧ Fact (Below W3.heap.size W3 wr)) (fun i _ => s.blocks.length - (intOf i).toNat)
  case atStart => exact ⟨0, Nat.zero_le _, rfl, ⟨Below.refl _ _⟩⟩
  case round =>
    obtain ⟨k, hk, rfl, HB⟩ := hrel
    by_cases hlt : k < s.blocks.length
    · obtain ⟨b1, o1, rfl, q1⟩ := Q1.out (by omega)
      obtain ⟨b2, o2, rfl, q2⟩ := Q2.out (by omega)
      have HW := B3.out.trans (HB.out.mono B3.out.size)
      have d0 : wr.cell? ⟨b1, o1 + k * 10, none⟩ = some (.int .u8 s.blocks[k].kind) := cell_below HW _ _ (q1 k hlt 0 _ rfl)
      have d1 : wr.cell? ⟨b1, o1 + k * 10 + 1, none⟩ = some (.bool s.blocks[k].w0) := cell_below HW _ _ (q1 k hlt 1 _ rfl)
      have d2 : wr.cell? ⟨b1, o1 + k * 10 + 2, none⟩ = some (.bool s.blocks[k].w1) := cell_below HW _ _ (q1 k hlt 2 _ rfl)
      have d3 : wr.cell? ⟨b1, o1 + k * 10 + 3, none⟩ = some (.bool s.blocks[k].ran) := cell_below HW _ _ (q1 k hlt 3 _ rfl)
      have d4 : wr.cell? ⟨b1, o1 + k * 10 + 4, none⟩ = some (.bool s.blocks[k].going) := cell_below HW _ _ (q1 k hlt 4 _ rfl)
      have d5 : wr.cell? ⟨b1, o1 + k * 10 + 5, none⟩ = some (.int .i64 s.blocks[k].frm) := cell_below HW _ _ (q1 k hlt 5 _ rfl)
      have d6 : wr.cell? ⟨b1, o1 + k * 10 + 6, none⟩ = some (.int .i64 s.blocks[k].et) := cell_below HW _ _ (q1 k hlt 6 _ rfl)
      have d7 : wr.cell? ⟨b1, o1 + k * 10 + 7, none⟩ = some (.int .i64 s.blocks[k].cv) := cell_below HW _ _ (q1 k hlt 7 _ rfl)
      have d8 : wr.cell? ⟨b1, o1 + k * 10 + 8, none⟩ = some (.bool s.blocks[k].q) := cell_below HW _ _ (q1 k hlt 8 _ rfl)
      have d9 : wr.cell? ⟨b1, o1 + k * 10 + 9, none⟩ = some (.bool s.blocks[k].p) := cell_below HW _ _ (q1 k hlt 9 _ rfl)
      have f0 : wr.cell? ⟨b2, o2 + k * 10, none⟩ = some (.int .u8 s.blocks[k].kind) := cell_below HW _ _ (q2 k hlt 0 _ rfl)
      have f1 : wr.cell? ⟨b2, o2 + k * 10 + 1, none⟩ = some (.bool s.blocks[k].w0) := cell_below HW _ _ (q2 k hlt 1 _ rfl)
      have f2 : wr.cell? ⟨b2, o2 + k * 10 + 2, none⟩ = some (.bool s.blocks[k].w1) := cell_below HW _ _ (q2 k hlt 2 _ rfl)
      have f3 : wr.cell? ⟨b2, o2 + k * 10 + 3, none⟩ = some (.bool s.blocks[k].ran) := cell_below HW _ _ (q2 k hlt 3 _ rfl)
      have f4 : wr.cell? ⟨b2, o2 + k * 10 + 4, none⟩ = some (.bool s.blocks[k].going) := cell_below HW _ _ (q2 k hlt 4 _ rfl)
      have f5 : wr.cell? ⟨b2, o2 + k * 10 + 5, none⟩ = some (.int .i64 s.blocks[k].frm) := cell_below HW _ _ (q2 k hlt 5 _ rfl)
      have f6 : wr.cell? ⟨b2, o2 + k * 10 + 6, none⟩ = some (.int .i64 s.blocks[k].et) := cell_below HW _ _ (q2 k hlt 6 _ rfl)
      have f7 : wr.cell? ⟨b2, o2 + k * 10 + 7, none⟩ = some (.int .i64 s.blocks[k].cv) := cell_below HW _ _ (q2 k hlt 7 _ rfl)
      have f8 : wr.cell? ⟨b2, o2 + k * 10 + 8, none⟩ = some (.bool s.blocks[k].q) := cell_below HW _ _ (q2 k hlt 8 _ rfl)
      have f9 : wr.cell? ⟨b2, o2 + k * 10 + 9, none⟩ = some (.bool s.blocks[k].p) := cell_below HW _ _ (q2 k hlt 9 _ rfl)
      replace k1 := cell_below HB.out _ _ k1
      replace k3 := cell_below HB.out _ _ k3
      replace l0 := Nat.lt_of_lt_of_le l0 HB.out.size
      replace l1 := Nat.lt_of_lt_of_le l1 HB.out.size
      have lb1 := World.block_lt_of_cell? wr _ d0
      have lb2 := World.block_lt_of_cell? wr _ f0
      have i1 : (k : Int) < (s.blocks.length : Int) := by omega
      have NX : Fact (k + 1 ≤ s.blocks.length) := ⟨hlt⟩
      clear q1 q2 HW
      generalize s.blocks[k] = b at *
      have eqb := eq_blk b
      go_wp2_with fail
      go_region
      go_wp2_with fail
      go_roundw
      case rel => exact ⟨k + 1, NX.out, by go_num, ⟨HB.out.drew⟩⟩
      case measure => simp [intOf]; omega
    · obtain rfl : k = s.blocks.length := by omega
      have BF := Fact.mk (B3.out.trans (HB.out.mono B3.out.size))
      go_wp2_with fail
      go_ret
      exact ⟨rfl, BF.out⟩
end Go.Proofs.Ytiogpainajokkaa

