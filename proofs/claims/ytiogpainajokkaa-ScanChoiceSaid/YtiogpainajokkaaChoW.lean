/- blockhouselaw16.ScanChoice: the walk. -/
import Derived.Test.YtiogpainajokkaaAwkM
import Derived.Test.YtiogpainajokkaaChoP
namespace Go.Proofs.Ytiogpainajokkaa
open Go.RowKit
theorem cho_wf {k x y : Int} (hk : k = 2 ∨ k = 3 ∨ k = 4 ∨ k = 5) (hx : inR k x = true) (hy : inR k y = true) : (choPg k x y).Wf := by
  have h1 := inR_bnd hx
  have h2 := inR_bnd hy
  have o1 : (0 : Int) ≤ 1 ∧ (1 : Int) ≤ 255 := by omega
  have o2 : (0 : Int) ≤ 2 ∧ (2 : Int) ≤ 255 := by omega
  have z8 : (0 : Int) ≤ 0 ∧ (0 : Int) ≤ 255 := by omega
  have k8 : 0 ≤ k ∧ k ≤ 255 := by omega
  have z64 : -9223372036854775808 ≤ (0 : Int) ∧ (0 : Int) ≤ 9223372036854775807 := by omega
  refine ⟨fun v hv => ?_, fun b hb => absurd hb (by simp [choPg]), fun i hi => ?_⟩
  · simp only [choPg, List.mem_cons, List.not_mem_nil, or_false] at hv
    rcases hv with rfl | rfl
    · exact ⟨by decide, by decide, z64⟩
    · exact ⟨o2, k8, z64⟩
  · simp only [choPg, List.mem_cons, List.not_mem_nil, or_false] at hi
    rcases hi with rfl | rfl | rfl | rfl | rfl | rfl
    · exact ⟨by decide, z8, z64, z64⟩
    · exact ⟨by decide, z8, by decide, z64⟩
    · exact ⟨o1, k8, z64, by show -9223372036854775808 ≤ x ∧ x ≤ 9223372036854775807; omega⟩
    · exact ⟨by decide, z8, by decide, z64⟩
    · exact ⟨o1, k8, z64, by show -9223372036854775808 ≤ y ∧ y ≤ 9223372036854775807; omega⟩
    · exact ⟨by decide, z8, by decide, z64⟩
/-- How the program lies in three new blocks. -/
structure ChoLay (w W : World) (k x y : Int) : Prop where
  bel : Below w.heap.size w W
  rd : CodeRd W (choPg k x y) (.slice (some ⟨w.heap.size, 0, none⟩) 2 2) (.slice none 0 0) (.slice (some ⟨w.heap.size + 1, 0, none⟩) 6 6)
  box : W.heap[w.heap.size + 1 + 1]? = some (.cells #[.string ⟨#[112]⟩, .slice (some ⟨w.heap.size, 0, none⟩) 2 2, .slice none 0 0, .slice (some ⟨w.heap.size + 1, 0, none⟩) 6 6] 26 (0, 0))
  lt : w.heap.size + 1 + 1 < W.heap.size
theorem ChoLay.below {w W W' : World} {k x y : Int} (h : ChoLay w W k x y) (hb : Below W.heap.size W W') : ChoLay w W' k x y :=
  ⟨h.bel.trans (hb.mono h.bel.size), h.rd.below hb, (hb.block _ h.lt).trans h.box, Nat.lt_of_lt_of_le h.lt hb.size⟩
theorem cho_lay (w : World) (k x y : Int) : ChoLay w (((w.alloc (.cells #[.string ⟨#[105, 102]⟩, .int .u8 1, .int .u8 1, .int .i64 0, .string ⟨#[111, 117, 116]⟩, .int .u8 2, .int .u8 k, .int .i64 0] 43)).alloc (.cells #[.int .u8 2, .int .u8 0, .int .i64 0, .int .i64 0, .int .u8 19, .int .u8 0, .int .i64 4, .int .i64 0, .int .u8 1, .int .u8 k, .int .i64 0, .int .i64 x, .int .u8 18, .int .u8 0, .int .i64 5, .int .i64 0, .int .u8 1, .int .u8 k, .int .i64 0, .int .i64 y, .int .u8 3, .int .u8 0, .int .i64 1, .int .i64 0] 49)).alloc (.cells #[.string ⟨#[112]⟩, .slice (some ⟨w.heap.size, 0, none⟩) 2 2, .slice none 0 0, .slice (some ⟨w.heap.size + 1, 0, none⟩) 6 6] 26)) k x y := by
  obtain ⟨W, hW, hb, r1, r2, r3, z⟩ := three_blocks w (.cells #[.string ⟨#[105, 102]⟩, .int .u8 1, .int .u8 1, .int .i64 0, .string ⟨#[111, 117, 116]⟩, .int .u8 2, .int .u8 k, .int .i64 0] 43) (.cells #[.int .u8 2, .int .u8 0, .int .i64 0, .int .i64 0, .int .u8 19, .int .u8 0, .int .i64 4, .int .i64 0, .int .u8 1, .int .u8 k, .int .i64 0, .int .i64 x, .int .u8 18, .int .u8 0, .int .i64 5, .int .i64 0, .int .u8 1, .int .u8 k, .int .i64 0, .int .i64 y, .int .u8 3, .int .u8 0, .int .i64 1, .int .i64 0] 49) (.cells #[.string ⟨#[112]⟩, .slice (some ⟨w.heap.size, 0, none⟩) 2 2, .slice none 0 0, .slice (some ⟨w.heap.size + 1, 0, none⟩) 6 6] 26)
  rw [← hW]
  exact ⟨hb, ⟨rd_cells encVar_len (xs := (choPg k x y).vars) r1 (by show 2 ≤ _; omega), rd_nil _ _ _, rd_cells encIns_len (xs := (choPg k x y).ins) r2 (by show 6 ≤ _; omega)⟩, r3, by omega⟩
set_option maxHeartbeats 4000000 in
set_option maxRecDepth 100000 in
theorem choW_any (yes : Bool) (t a b : Int) (ht : 0 ≤ t) (ht2 : t ≤ 255) (w : World) :
    Calls Try.prog 5 #[.bool yes, .int .u8 t, .int .i64 a, .int .i64 b] w fun e w' => e = .returned (.bool true) ∧ Below w.heap.size w w' := by
  obtain ⟨k, hk⟩ : ∃ k, 2 + t % 4 = k := ⟨_, rfl⟩
  have hkk : k = 2 ∨ k = 3 ∨ k = 4 ∨ k = 5 := by omega
  have ek : IntKind.u8.wrap (2 + t % 4) = k := by
    rw [hk]
    rcases hkk with rfl | rfl | rfl | rfl <;> rfl
  obtain ⟨x, hx⟩ : ∃ x, wrapOf k a = x := ⟨_, rfl⟩
  obtain ⟨y, hy⟩ : ∃ y, wrapOf k b = y := ⟨_, rfl⟩
  have ix : inR k x = true := hx ▸ inR_wrap _ _
  have iy : inR k y = true := hy ▸ inR_wrap _ _
  have WA := Fact.mk (fun W => wrap_any k a W)
  have WB := Fact.mk (fun W => wrap_any k b W)
  rw [hx] at WA
  rw [hy] at WB
  have LY := Fact.mk (cho_lay w k x y)
  have hwf := cho_wf hkk ix iy
  have NW := Fact.mk (fun W (hW : ChoLay w W k x y) => snew_any (choPg k x y) hwf (by show (6 : Int) < _; omega) _ _ _ 5 W hW.rd)
  have SC := Fact.mk (fun W V B lv (hW : ChoLay w W k x y) (hp : PlRd W (firstB (choPg k x y)) V B) (hl : Rd oneI64 1 W lv [truthI yes]) => scan_any (choPg k x y) hwf (by show (6 : Int) < _; omega) (firstB (choPg k x y)) [truthI yes] 0 _ _ _ V B lv W hW.rd hp hl (by show 2 ≤ _; omega) (by show 0 ≤ _; omega))
  have HN : newP (choPg k x y) 5 = (firstB (choPg k x y), 0) := by unfold newP; rw [if_pos (cho_check hkk ix iy).2]
  rw [HN] at NW
  rw [cho_scan hkk ix iy yes] at SC
  have HK := Fact.mk hk
  clear hwf HN ix iy hx hy hkk hk
  cases yes
  · have SC2 : Fact (∀ W V B lv, ChoLay w W k x y → PlRd W (firstB (choPg k x y)) V B → Rd oneI64 1 W lv [0] → Calls Try.prog 16 #[.agg #[.string ⟨#[112]⟩, .slice (some ⟨w.heap.size, 0, none⟩) 2 2, .slice none 0 0, .slice (some ⟨w.heap.size + 1, 0, none⟩) 6 6], .agg #[V, B], lv, .int .i64 0] W (ScanPost W (⟨[0, y], []⟩, [y], 4, 0))) := ⟨SC.out⟩
    clear SC
    go_enter Try.func5, Try.ntmps5
    go_wp2_with fail
    refine (WA.out _).mono ?_
    rintro e W0 ⟨rfl, rfl⟩
    go_wp2_with fail
    refine (WB.out _).mono ?_
    rintro e W0 ⟨rfl, rfl⟩
    clear WA WB
    go_upto_region 4 with (fail)
    generalize (((w.alloc (.cells #[.string ⟨#[105, 102]⟩, .int .u8 1, .int .u8 1, .int .i64 0, .string ⟨#[111, 117, 116]⟩, .int .u8 2, .int .u8 k, .int .i64 0] 43)).alloc (.cells #[.int .u8 2, .int .u8 0, .int .i64 0, .int .i64 0, .int .u8 19, .int .u8 0, .int .i64 4, .int .i64 0, .int .u8 1, .int .u8 k, .int .i64 0, .int .i64 x, .int .u8 18, .int .u8 0, .int .i64 5, .int .i64 0, .int .u8 1, .int .u8 k, .int .i64 0, .int .i64 y, .int .u8 3, .int .u8 0, .int .i64 1, .int .i64 0] 49)).alloc (.cells #[.string ⟨#[112]⟩, .slice (some ⟨w.heap.size, 0, none⟩) 2 2, .slice none 0 0, .slice (some ⟨w.heap.size + 1, 0, none⟩) 6 6] 26)) = w2 at *
    have k0 := cell_of_row _ _ 0 _ _ _ LY.out.box
    have k1 := cell_of_row _ _ 1 _ _ _ LY.out.box
    have k2 := cell_of_row _ _ 2 _ _ _ LY.out.box
    have k3 := cell_of_row _ _ 3 _ _ _ LY.out.box
    have l2 := LY.out.lt
    go_wp2_with fail
    refine (NW.out _ LY.out).mono ?_
    rintro e W3 ⟨V, B, rfl, ho3, hb3⟩
    obtain ⟨AV, nV, cV, rfl⟩ := ho3.v.slice
    obtain ⟨AB, nB, cB, rfl⟩ := ho3.b.slice
    obtain ⟨b4, r4, z4⟩ := one_block W3 (.cells #[.slice AV nV cV, .slice AB nB cB] 34)
    have L4 := Fact.mk ((LY.out.below hb3).below b4)
    have P4 := Fact.mk ((ho3.below b4).rd)
    clear k0 k1 k2 k3 l2 LY ho3 hb3 NW
    go_upto_region 8 with (fail)
    generalize W3.alloc (.cells #[.slice AV nV cV, .slice AB nB cB] 34) = w4 at *
    have k0 := cell_of_row _ _ 0 _ _ _ L4.out.box
    have k1 := cell_of_row _ _ 1 _ _ _ L4.out.box
    have k2 := cell_of_row _ _ 2 _ _ _ L4.out.box
    have k3 := cell_of_row _ _ 3 _ _ _ L4.out.box
    have l2 := L4.out.lt
    have j0 : w4.cell? ⟨W3.heap.size, 0, none⟩ = some (.slice AV nV cV) := cell_of_row _ _ 0 _ _ _ r4
    have j1 : w4.cell? ⟨W3.heap.size, 1, none⟩ = some (.slice AB nB cB) := cell_of_row _ _ 1 _ _ _ r4
    have l3 : W3.heap.size < w4.heap.size := by rw [z4]; omega
    obtain ⟨b5, r5, z5⟩ := one_block w4 (.cells #[.int .i64 0] 2)
    have HSC := Fact.mk (SC2.out _ _ _ _ (L4.out.below b5) (P4.out.below b5) (rd_one64 r5))
    have B5 := Fact.mk (L4.out.below b5).bel
    clear r4 z4 b4 b5 r5 z5 SC2
    go_wp2_with fail
    refine HSC.out.mono ?_
    rintro e W5 ⟨V5, B5', O5, rfl, ho5, hO5, hb5⟩
    obtain ⟨AV5, nV5, cV5, rfl⟩ := ho5.v.slice
    obtain ⟨AB5, nB5, cB5, rfl⟩ := ho5.b.slice
    obtain ⟨AO5, cO5, rfl⟩ := hO5.slice2
    obtain ⟨b6, r6, z6⟩ := one_block W5 (.cells #[.slice AV5 nV5 cV5, .slice AB5 nB5 cB5] 34)
    have B56 := hb5.trans (b6.mono hb5.size)
    have BL6 := Fact.mk (B5.out.trans (B56.mono B5.out.size))
    have O6 := Fact.mk ((hO5.rd oneI64_len).below b6)
    clear k0 k1 k2 k3 l2 l3 j0 j1 ho5 hO5 hb5 b6 r6 z6 B56 L4 P4 HSC B5
    go_upto_region 9 with (fail)
    generalize W5.alloc (.cells #[.slice AV5 nV5 cV5, .slice AB5 nB5 cB5] 34) = w6 at *
    obtain ⟨c1, d1, z12⟩ := one_block w6 (.cells #[.int .i64 y] 2)
    have SM1 := Fact.mk (same64_any _ _ _ _ _ (O6.out.below c1) (rd_one64 d1))
    have BL7 := Fact.mk (BL6.out.trans (c1.mono BL6.out.size))
    rw [decide_eq_true (rfl : [y] = [y])] at SM1
    clear c1 d1 z12 O6 BL6
    go_wp2_with fail
    refine SM1.out.mono ?_
    rintro e W7 ⟨rfl, hb7⟩
    have BL8 := Fact.mk (BL7.out.trans (hb7.mono BL7.out.size))
    clear hb7 SM1 BL7
    go_wp2_with fail
    refine (awkS_any _).mono ?_
    rintro e W8 ⟨rfl, hb8⟩
    have BL9 := Fact.mk (BL8.out.trans (hb8.mono BL8.out.size))
    clear hb8 BL8
    go_wp2
    go_ret
    exact ⟨rfl, BL9.out⟩
  · have SC2 : Fact (∀ W V B lv, ChoLay w W k x y → PlRd W (firstB (choPg k x y)) V B → Rd oneI64 1 W lv [1] → Calls Try.prog 16 #[.agg #[.string ⟨#[112]⟩, .slice (some ⟨w.heap.size, 0, none⟩) 2 2, .slice none 0 0, .slice (some ⟨w.heap.size + 1, 0, none⟩) 6 6], .agg #[V, B], lv, .int .i64 0] W (ScanPost W (⟨[1, x], []⟩, [x], 5, 0))) := ⟨SC.out⟩
    clear SC
    go_enter Try.func5, Try.ntmps5
    go_wp2_with fail
    refine (WA.out _).mono ?_
    rintro e W0 ⟨rfl, rfl⟩
    go_wp2_with fail
    refine (WB.out _).mono ?_
    rintro e W0 ⟨rfl, rfl⟩
    clear WA WB
    go_upto_region 4 with (fail)
    generalize (((w.alloc (.cells #[.string ⟨#[105, 102]⟩, .int .u8 1, .int .u8 1, .int .i64 0, .string ⟨#[111, 117, 116]⟩, .int .u8 2, .int .u8 k, .int .i64 0] 43)).alloc (.cells #[.int .u8 2, .int .u8 0, .int .i64 0, .int .i64 0, .int .u8 19, .int .u8 0, .int .i64 4, .int .i64 0, .int .u8 1, .int .u8 k, .int .i64 0, .int .i64 x, .int .u8 18, .int .u8 0, .int .i64 5, .int .i64 0, .int .u8 1, .int .u8 k, .int .i64 0, .int .i64 y, .int .u8 3, .int .u8 0, .int .i64 1, .int .i64 0] 49)).alloc (.cells #[.string ⟨#[112]⟩, .slice (some ⟨w.heap.size, 0, none⟩) 2 2, .slice none 0 0, .slice (some ⟨w.heap.size + 1, 0, none⟩) 6 6] 26)) = w2 at *
    have k0 := cell_of_row _ _ 0 _ _ _ LY.out.box
    have k1 := cell_of_row _ _ 1 _ _ _ LY.out.box
    have k2 := cell_of_row _ _ 2 _ _ _ LY.out.box
    have k3 := cell_of_row _ _ 3 _ _ _ LY.out.box
    have l2 := LY.out.lt
    go_wp2_with fail
    refine (NW.out _ LY.out).mono ?_
    rintro e W3 ⟨V, B, rfl, ho3, hb3⟩
    obtain ⟨AV, nV, cV, rfl⟩ := ho3.v.slice
    obtain ⟨AB, nB, cB, rfl⟩ := ho3.b.slice
    obtain ⟨b4, r4, z4⟩ := one_block W3 (.cells #[.slice AV nV cV, .slice AB nB cB] 34)
    have L4 := Fact.mk ((LY.out.below hb3).below b4)
    have P4 := Fact.mk ((ho3.below b4).rd)
    clear k0 k1 k2 k3 l2 LY ho3 hb3 NW
    go_upto_region 8 with (fail)
    generalize W3.alloc (.cells #[.slice AV nV cV, .slice AB nB cB] 34) = w4 at *
    have k0 := cell_of_row _ _ 0 _ _ _ L4.out.box
    have k1 := cell_of_row _ _ 1 _ _ _ L4.out.box
    have k2 := cell_of_row _ _ 2 _ _ _ L4.out.box
    have k3 := cell_of_row _ _ 3 _ _ _ L4.out.box
    have l2 := L4.out.lt
    have j0 : w4.cell? ⟨W3.heap.size, 0, none⟩ = some (.slice AV nV cV) := cell_of_row _ _ 0 _ _ _ r4
    have j1 : w4.cell? ⟨W3.heap.size, 1, none⟩ = some (.slice AB nB cB) := cell_of_row _ _ 1 _ _ _ r4
    have l3 : W3.heap.size < w4.heap.size := by rw [z4]; omega
    obtain ⟨b5, r5, z5⟩ := one_block w4 (.cells #[.int .i64 1] 2)
    have HSC := Fact.mk (SC2.out _ _ _ _ (L4.out.below b5) (P4.out.below b5) (rd_one64 r5))
    have B5 := Fact.mk (L4.out.below b5).bel
    clear r4 z4 b4 b5 r5 z5 SC2
    go_wp2_with fail
    refine HSC.out.mono ?_
    rintro e W5 ⟨V5, B5', O5, rfl, ho5, hO5, hb5⟩
    obtain ⟨AV5, nV5, cV5, rfl⟩ := ho5.v.slice
    obtain ⟨AB5, nB5, cB5, rfl⟩ := ho5.b.slice
    obtain ⟨AO5, cO5, rfl⟩ := hO5.slice2
    obtain ⟨b6, r6, z6⟩ := one_block W5 (.cells #[.slice AV5 nV5 cV5, .slice AB5 nB5 cB5] 34)
    have B56 := hb5.trans (b6.mono hb5.size)
    have BL6 := Fact.mk (B5.out.trans (B56.mono B5.out.size))
    have O6 := Fact.mk ((hO5.rd oneI64_len).below b6)
    clear k0 k1 k2 k3 l2 l3 j0 j1 ho5 hO5 hb5 b6 r6 z6 B56 L4 P4 HSC B5
    go_upto_region 9 with (fail)
    generalize W5.alloc (.cells #[.slice AV5 nV5 cV5, .slice AB5 nB5 cB5] 34) = w6 at *
    obtain ⟨c1, d1, z12⟩ := one_block w6 (.cells #[.int .i64 x] 2)
    have SM1 := Fact.mk (same64_any _ _ _ _ _ (O6.out.below c1) (rd_one64 d1))
    have BL7 := Fact.mk (BL6.out.trans (c1.mono BL6.out.size))
    rw [decide_eq_true (rfl : [x] = [x])] at SM1
    clear c1 d1 z12 O6 BL6
    go_wp2_with fail
    refine SM1.out.mono ?_
    rintro e W7 ⟨rfl, hb7⟩
    have BL8 := Fact.mk (BL7.out.trans (hb7.mono BL7.out.size))
    clear hb7 SM1 BL7
    go_wp2_with fail
    refine (awkS_any _).mono ?_
    rintro e W8 ⟨rfl, hb8⟩
    have BL9 := Fact.mk (BL8.out.trans (hb8.mono BL8.out.size))
    clear hb8 BL8
    go_wp2
    go_ret
    exact ⟨rfl, BL9.out⟩
end Go.Proofs.Ytiogpainajokkaa

