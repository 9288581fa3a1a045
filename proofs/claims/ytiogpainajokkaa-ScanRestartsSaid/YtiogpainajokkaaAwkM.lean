/- The contract of blockhouselaw16.same. -/
import Derived.Test.YtiogpainajokkaaBaseM
import Derived.Test.YtiogpainajokkaaBlkM
import Derived.Deep.QuietTactic
import Derived.BigQuiet
import Derived.Test.YtiogpainajokkaaScn
import Derived.Test.YtiogpainajokkaaSgnM
namespace Go.Proofs.Ytiogpainajokkaa
open Go.RowKit
set_option maxHeartbeats 400000 in
set_option maxRecDepth 100000 in
theorem same64_any (w : World) (v1 v2 : Value) (xs ys : List Int) (h1 : Rd oneI64 1 w v1 xs) (h2 : Rd oneI64 1 w v2 ys) :
    Calls Try.prog 18 #[v1, v2] w fun e w' => e = .returned (.bool (decide (xs = ys))) ∧ Below w.heap.size w w' := by
  obtain ⟨l1, A1, c1, rfl, hc1, _, r1⟩ := h1
  obtain ⟨l2, A2, c2, rfl, hc2, _, r2⟩ := h2
  have R1 := Fact.mk r1
  have R2 := Fact.mk r2
  clear r1 r2
  by_cases hl : xs.length = ys.length
  · go_enter Try.func18, Try.ntmps18
    go_wp2_with fail
    go_loopw [13] (fun i wr => ∃ k : Nat, k ≤ xs.length ∧ i = .int .i64 k ∧ Fact (Below w.heap.size w wr ∧ xs.take k = ys.take k)) (fun i _ => xs.length - (intOf i).toNat)
    case atStart => exact ⟨0, Nat.zero_le _, rfl, ⟨⟨Below.refl _ _, rfl⟩⟩⟩
    case round =>
      obtain ⟨k, hk, rfl, hB⟩ := hrel
      by_cases hlt : k < xs.length
      · obtain ⟨b1, o1, rfl, q1⟩ := R1.out (by omega)
        obtain ⟨b2, o2, rfl, q2⟩ := R2.out (by omega)
        have p1 : wr.cell? ⟨b1, o1 + k, none⟩ = some (.int .i64 xs[k]) := by
          have := cell_below hB.out.1 _ _ (q1 k hlt 0 _ rfl)
          rwa [show o1 + k * 1 + 0 = o1 + k from by omega] at this
        have hlt2 : k < ys.length := by omega
        have p2 : wr.cell? ⟨b2, o2 + k, none⟩ = some (.int .i64 ys[k]) := by
          have := cell_below hB.out.1 _ _ (q2 k hlt2 0 _ rfl)
          rwa [show o2 + k * 1 + 0 = o2 + k from by omega] at this
        clear q1 q2
        have i1 : (k : Int) < (xs.length : Int) := by omega
        have i2 : (k : Int) < (ys.length : Int) := by omega
        go_wp2_with fail
        go_quiet (fail)
        have hB2 : Below w.heap.size w (wr.drewN nq) := hB.out.1.trans ⟨rfl, rfl, rfl, Nat.le_refl _, fun _ _ => rfl⟩
        have HB2 := Fact.mk hB2
        clear hB2 p1 p2
        by_cases he : xs[k] = ys[k]
        · have e1 : (xs[k] != ys[k]) = false := by simp [he]
          rw [e1]
          go_wp2_with fail
          go_roundw
          case rel =>
            refine ⟨k + 1, by omega, by go_num, ⟨⟨HB2.out, ?_⟩⟩⟩
            rw [List.take_succ_eq_append_getElem hlt, List.take_succ_eq_append_getElem hlt2, hB.out.2, he]
          case measure => simp [intOf]; omega
        · have e1 : (xs[k] != ys[k]) = true := by simpa using he
          rw [e1]
          go_wp2_with fail
          go_ret
          refine ⟨ret_bool ?_, HB2.out⟩
          exact (decide_eq_false (fun h => he (by subst h; rfl))).symm
      · obtain rfl : k = xs.length := by omega
        go_wp2_with fail
        go_ret
        refine ⟨ret_bool ?_, hB.out.1⟩
        have h := hB.out.2
        rw [List.take_length] at h
        rw [hl, List.take_length] at h
        exact (decide_eq_true h).symm
  · go_enter Try.func18, Try.ntmps18
    go_wp2_with fail
    go_ret
    refine ⟨ret_bool ?_, Below.refl _ _⟩
    exact (decide_eq_false (fun h => hl (by rw [h]))).symm
end Go.Proofs.Ytiogpainajokkaa

namespace Go.Proofs.Ytiogpainajokkaa
open Go.RowKit
theorem sgn_wf {k x y o : Int} (hk : k = 2 ∨ k = 3 ∨ k = 4 ∨ k = 5) (ho : o = 4 ∨ o = 5 ∨ o = 6 ∨ o = 7 ∨ o = 8 ∨ o = 9 ∨ o = 10 ∨ o = 11) (hx : inR k x = true) (hy : inR k y = true) : (sgnPg k x y o).Wf := by
  have h1 := inR_bnd hx
  have h2 := inR_bnd hy
  refine ⟨fun v hv => ?_, fun b hb => absurd hb (by simp [sgnPg]), fun i hi => ?_⟩
  · simp only [sgnPg, List.mem_cons, List.not_mem_nil, or_false] at hv
    subst hv
    exact ⟨by show (0 : Int) ≤ 2 ∧ (2 : Int) ≤ 255; omega, by show 0 ≤ k ∧ k ≤ 255; omega, by show -9223372036854775808 ≤ (0 : Int) ∧ (0 : Int) ≤ 9223372036854775807; omega⟩
  · simp only [sgnPg, List.mem_cons, List.not_mem_nil, or_false] at hi
    rcases hi with rfl | rfl | rfl | rfl
    · exact ⟨by show (0 : Int) ≤ 1 ∧ (1 : Int) ≤ 255; omega, by show 0 ≤ k ∧ k ≤ 255; omega, by show -9223372036854775808 ≤ (0 : Int) ∧ (0 : Int) ≤ 9223372036854775807; omega, by show -9223372036854775808 ≤ x ∧ x ≤ 9223372036854775807; omega⟩
    · exact ⟨by show (0 : Int) ≤ 1 ∧ (1 : Int) ≤ 255; omega, by show 0 ≤ k ∧ k ≤ 255; omega, by show -9223372036854775808 ≤ (0 : Int) ∧ (0 : Int) ≤ 9223372036854775807; omega, by show -9223372036854775808 ≤ y ∧ y ≤ 9223372036854775807; omega⟩
    · exact ⟨by show 0 ≤ o ∧ o ≤ 255; omega, by show 0 ≤ k ∧ k ≤ 255; omega, by show -9223372036854775808 ≤ (0 : Int) ∧ (0 : Int) ≤ 9223372036854775807; omega, by show -9223372036854775808 ≤ (0 : Int) ∧ (0 : Int) ≤ 9223372036854775807; omega⟩
    · exact ⟨by show (0 : Int) ≤ 3 ∧ (3 : Int) ≤ 255; omega, by show (0 : Int) ≤ 0 ∧ (0 : Int) ≤ 255; omega, by show -9223372036854775808 ≤ (0 : Int) ∧ (0 : Int) ≤ 9223372036854775807; omega, by show -9223372036854775808 ≤ (0 : Int) ∧ (0 : Int) ≤ 9223372036854775807; omega⟩
/-- How the program lies in three new blocks. -/
structure SgnLay (w W : World) (k x y o : Int) : Prop where
  bel : Below w.heap.size w W
  rd : CodeRd W (sgnPg k x y o) (.slice (some ⟨w.heap.size, 0, none⟩) 1 1) (.slice none 0 0) (.slice (some ⟨w.heap.size + 1, 0, none⟩) 4 4)
  box : W.heap[w.heap.size + 1 + 1]? = some (.cells #[.string ⟨#[112]⟩, .slice (some ⟨w.heap.size, 0, none⟩) 1 1, .slice none 0 0, .slice (some ⟨w.heap.size + 1, 0, none⟩) 4 4] 26 (0, 0))
  lt : w.heap.size + 1 + 1 < W.heap.size
theorem SgnLay.below {w W W' : World} {k x y o : Int} (h : SgnLay w W k x y o) (hb : Below W.heap.size W W') : SgnLay w W' k x y o :=
  ⟨h.bel.trans (hb.mono h.bel.size), h.rd.below hb, (hb.block _ h.lt).trans h.box, Nat.lt_of_lt_of_le h.lt hb.size⟩
theorem rd_cells {α : Type} {enc : α → List Value} {k : Nat} (hk : ∀ x, (enc x).length = k) {W : World} {g : Nat} {xs : List α} {T : TypeId} (h : W.heap[g]? = some (.cells (xs.flatMap enc).toArray T (0, 0))) (hl : xs.length ≤ 9223372036854775807) : Rd enc k W (.slice (some ⟨g, 0, none⟩) xs.length xs.length) xs := by
  refine ⟨hl, _, _, rfl, Nat.le_refl _, (fun h => by cases h), fun _ => ⟨g, 0, rfl, fun j hj i u hu => ?_⟩⟩
  rw [cell_of_row _ _ _ _ _ (0, 0) h]
  have := flatMap_at hk xs j hj i u hu
  simpa using this
theorem sgn_lay (w : World) (k x y o : Int) : SgnLay w (((w.alloc (.cells #[.string ⟨#[97]⟩, .int .u8 2, .int .u8 k, .int .i64 0] 43)).alloc (.cells #[.int .u8 1, .int .u8 k, .int .i64 0, .int .i64 x, .int .u8 1, .int .u8 k, .int .i64 0, .int .i64 y, .int .u8 o, .int .u8 k, .int .i64 0, .int .i64 0, .int .u8 3, .int .u8 0, .int .i64 0, .int .i64 0] 49)).alloc (.cells #[.string ⟨#[112]⟩, .slice (some ⟨w.heap.size, 0, none⟩) 1 1, .slice none 0 0, .slice (some ⟨w.heap.size + 1, 0, none⟩) 4 4] 26)) k x y o := by
  obtain ⟨W, hW, hb, r1, r2, r3, z⟩ := three_blocks w (.cells #[.string ⟨#[97]⟩, .int .u8 2, .int .u8 k, .int .i64 0] 43) (.cells #[.int .u8 1, .int .u8 k, .int .i64 0, .int .i64 x, .int .u8 1, .int .u8 k, .int .i64 0, .int .i64 y, .int .u8 o, .int .u8 k, .int .i64 0, .int .i64 0, .int .u8 3, .int .u8 0, .int .i64 0, .int .i64 0] 49) (.cells #[.string ⟨#[112]⟩, .slice (some ⟨w.heap.size, 0, none⟩) 1 1, .slice none 0 0, .slice (some ⟨w.heap.size + 1, 0, none⟩) 4 4] 26)
  rw [← hW]
  exact ⟨hb, ⟨rd_cells encVar_len (xs := (sgnPg k x y o).vars) r1 (by show 1 ≤ _; omega), rd_nil _ _ _, rd_cells encIns_len (xs := (sgnPg k x y o).ins) r2 (by show 4 ≤ _; omega)⟩, r3, by omega⟩
/-- What a sign makes of two numbers: the value, the steps, the error. -/
def sgnR (k o x y : Int) : Int × Int × Int := if (o = 7 ∨ o = 8) ∧ y = 0 then (0, 2, 162) else (signB o k x y, 4, 0)
set_option maxHeartbeats 2000000 in
set_option maxRecDepth 100000 in
theorem signed_any (o x y : Int) (ho : o = 4 ∨ o = 5 ∨ o = 6 ∨ o = 7 ∨ o = 8 ∨ o = 9 ∨ o = 10 ∨ o = 11) (hx : inR 3 x = true) (hy : inR 3 y = true) (w : World) :
    Calls Try.prog 42 #[.int .u8 o, .int .i64 x, .int .i64 y] w fun e w' => e = .returned (.tuple #[.int .i64 (sgnR 3 o x y).1, .int .i64 (sgnR 3 o x y).2.1, .int .i64 (sgnR 3 o x y).2.2]) ∧ Below w.heap.size w w' := by
  have LY := Fact.mk (sgn_lay w 3 x y o)
  have hk : (3 : Int) = 2 ∨ (3 : Int) = 3 ∨ (3 : Int) = 4 ∨ (3 : Int) = 5 := by omega
  have hwf := sgn_wf hk ho hx hy
  obtain ⟨hc0, hck⟩ := sgn_check hk ho hx hy
  have NW := Fact.mk (fun W (hW : SgnLay w W 3 x y o) => snew_any (sgnPg 3 x y o) hwf (by show (4 : Int) < _; omega) _ _ _ 9 W hW.rd)
  have SC := Fact.mk (fun W V B (hW : SgnLay w W 3 x y o) (hp : PlRd W (firstB (sgnPg 3 x y o)) V B) => scan_any (sgnPg 3 x y o) hwf (by show (4 : Int) < _; omega) (firstB (sgnPg 3 x y o)) [] 0 _ _ _ V B (.slice none 0 0) W hW.rd hp (rd_nil _ _ _) (by show 1 ≤ _; omega) (by show 0 ≤ _; omega))
  have HN : Fact (newP (sgnPg 3 x y o) 9 = (firstB (sgnPg 3 x y o), 0)) := ⟨by unfold newP; rw [if_pos hck]⟩
  rw [HN.out] at NW
  have HS := Fact.mk (sgn_scan hk ho hx hy)
  clear hwf hc0 hck hk ho hx hy
  obtain ⟨sr, hsr⟩ : ∃ sr, sgnR 3 o x y = sr := ⟨_, rfl⟩
  rw [hsr]
  have HR := Fact.mk hsr
  clear hsr
  go_enter Try.func42, Try.ntmps42
  go_upto_region 2 with (fail)
  generalize (((w.alloc (.cells #[.string ⟨#[97]⟩, .int .u8 2, .int .u8 3, .int .i64 0] 43)).alloc (.cells #[.int .u8 1, .int .u8 3, .int .i64 0, .int .i64 x, .int .u8 1, .int .u8 3, .int .i64 0, .int .i64 y, .int .u8 o, .int .u8 3, .int .i64 0, .int .i64 0, .int .u8 3, .int .u8 0, .int .i64 0, .int .i64 0] 49)).alloc (.cells #[.string ⟨#[112]⟩, .slice (some ⟨w.heap.size, 0, none⟩) 1 1, .slice none 0 0, .slice (some ⟨w.heap.size + 1, 0, none⟩) 4 4] 26)) = w2 at *
  have k0 := cell_of_row _ _ 0 _ _ _ LY.out.box
  have k1 := cell_of_row _ _ 1 _ _ _ LY.out.box
  have k2 := cell_of_row _ _ 2 _ _ _ LY.out.box
  have k3 := cell_of_row _ _ 3 _ _ _ LY.out.box
  have l2 := LY.out.lt
  go_wp2_with fail
  refine (NW.out _ LY.out).mono ?_
  rintro e W3 ⟨V, B, rfl, ho3, hb3⟩
  obtain ⟨AV, nV, cV, rfl⟩ := ho3.v.slice
  obtain ⟨AB, nB, cB, rfl⟩ := ho3.b.slice
  obtain ⟨b4, r4, z4⟩ := one_block W3 (.cells #[.slice AV nV cV, .slice AB nB cB] 34)
  have L4 := Fact.mk ((LY.out.below hb3).below b4)
  have P4 := Fact.mk ((ho3.below b4).rd)
  clear k0 k1 k2 k3 l2 LY ho3 hb3
  go_upto_region 3 with (fail)
  generalize W3.alloc (.cells #[.slice AV nV cV, .slice AB nB cB] 34) = w4 at *
  have k0 := cell_of_row _ _ 0 _ _ _ L4.out.box
  have k1 := cell_of_row _ _ 1 _ _ _ L4.out.box
  have k2 := cell_of_row _ _ 2 _ _ _ L4.out.box
  have k3 := cell_of_row _ _ 3 _ _ _ L4.out.box
  have l2 := L4.out.lt
  have j0 : w4.cell? ⟨W3.heap.size, 0, none⟩ = some (.slice AV nV cV) := cell_of_row _ _ 0 _ _ _ r4
  have j1 : w4.cell? ⟨W3.heap.size, 1, none⟩ = some (.slice AB nB cB) := cell_of_row _ _ 1 _ _ _ r4
  have l3 : W3.heap.size < w4.heap.size := by rw [z4]; omega
  have HSC := Fact.mk (SC.out w4 _ _ L4.out P4.out)
  clear SC r4 z4 b4
  by_cases hz : (o = 7 ∨ o = 8) ∧ y = 0
  · rw [HS.out, if_pos hz] at HSC
    obtain rfl : (0, 2, 162) = sr := by rw [← HR.out]; unfold sgnR; rw [if_pos hz]
    clear hz
    go_wp2_with fail
    refine HSC.out.mono ?_
    rintro e W5 ⟨V5, B5, O5, rfl, ho5, hO5, hb5⟩
    obtain ⟨AV5, nV5, cV5, rfl⟩ := ho5.v.slice
    obtain ⟨AB5, nB5, cB5, rfl⟩ := ho5.b.slice
    obtain ⟨AO5, cO5, rfl⟩ := hO5.slice2
    have BF := Fact.mk (L4.out.below hb5).bel
    clear ho5 hO5 hb5
    go_wp2
    go_ret3
    exact ⟨rfl, BF.out.alloc BF.out.size _⟩
  · rw [HS.out, if_neg hz] at HSC
    obtain rfl : (signB o 3 x y, 4, 0) = sr := by rw [← HR.out]; unfold sgnR; rw [if_neg hz]
    clear hz
    clear HS HR
    go_wp2_with fail
    refine HSC.out.mono ?_
    rintro e W5 ⟨V5, B5, O5, rfl, ho5, hO5, hb5⟩
    obtain ⟨AV5, nV5, cV5, rfl⟩ := ho5.v.slice
    obtain ⟨AB5, nB5, cB5, rfl⟩ := ho5.b.slice
    obtain ⟨g5, o5, c5, rfl, hc5⟩ := rd_at64 (hO5.rd oneI64_len) 0 (by show 0 < 1; omega)
    have l5 : g5 < W5.heap.size := World.block_lt_of_cell? W5 _ hc5
    have hc6 : W5.cell? ⟨g5, o5, none⟩ = some (.int .i64 (signB o 3 x y)) := hc5
    have BF := Fact.mk (L4.out.below hb5).bel
    clear ho5 hO5 hb5 hc5
    go_wp2
    go_ret3
    exact ⟨rfl, BF.out.alloc BF.out.size _⟩
end Go.Proofs.Ytiogpainajokkaa

namespace Go.Proofs.Ytiogpainajokkaa
open Go.RowKit
set_option maxHeartbeats 2000000 in
set_option maxRecDepth 100000 in
theorem does_any (k o x y : Int) (hk : k = 2 ∨ k = 3 ∨ k = 4 ∨ k = 5) (ho : o = 4 ∨ o = 5 ∨ o = 6 ∨ o = 7 ∨ o = 8 ∨ o = 9 ∨ o = 10 ∨ o = 11) (hx : inR k x = true) (hy : inR k y = true) (pk px py : Nat) (w : World) (q1 : w.cell? ⟨pk, 0, none⟩ = some (.int .u8 k)) (q2 : w.cell? ⟨px, 0, none⟩ = some (.int .i64 x)) (q3 : w.cell? ⟨py, 0, none⟩ = some (.int .i64 y)) :
    Calls Try.prog 20 #[.int .u8 o, .pointer (some ⟨pk, 0, none⟩), .pointer (some ⟨px, 0, none⟩), .pointer (some ⟨py, 0, none⟩)] w fun e w' => e = .returned (.tuple #[.int .i64 (sgnR k o x y).1, .int .i64 (sgnR k o x y).2.2]) ∧ Below w.heap.size w w' := by
  have LY := Fact.mk (sgn_lay w k x y o)
  have lp1 := World.block_lt_of_cell? w _ q1
  have lp2 := World.block_lt_of_cell? w _ q2
  have lp3 := World.block_lt_of_cell? w _ q3
  have hwf := sgn_wf hk ho hx hy
  obtain ⟨hc0, hck⟩ := sgn_check hk ho hx hy
  have NW := Fact.mk (fun W (hW : SgnLay w W k x y o) => snew_any (sgnPg k x y o) hwf (by show (4 : Int) < _; omega) _ _ _ 9 W hW.rd)
  have SC := Fact.mk (fun W V B (hW : SgnLay w W k x y o) (hp : PlRd W (firstB (sgnPg k x y o)) V B) => scan_any (sgnPg k x y o) hwf (by show (4 : Int) < _; omega) (firstB (sgnPg k x y o)) [] 0 _ _ _ V B (.slice none 0 0) W hW.rd hp (rd_nil _ _ _) (by show 1 ≤ _; omega) (by show 0 ≤ _; omega))
  have HN : Fact (newP (sgnPg k x y o) 9 = (firstB (sgnPg k x y o), 0)) := ⟨by unfold newP; rw [if_pos hck]⟩
  rw [HN.out] at NW
  have HS := Fact.mk (sgn_scan hk ho hx hy)
  clear hwf hc0 hck hk ho hx hy
  obtain ⟨sr, hsr⟩ : ∃ sr, sgnR k o x y = sr := ⟨_, rfl⟩
  rw [hsr]
  have HR := Fact.mk hsr
  clear hsr
  go_enter Try.func20, Try.ntmps20
  go_upto_region 2 with (fail)
  clear q1 q2 q3 lp1 lp2 lp3
  generalize (((w.alloc (.cells #[.string ⟨#[97]⟩, .int .u8 2, .int .u8 k, .int .i64 0] 43)).alloc (.cells #[.int .u8 1, .int .u8 k, .int .i64 0, .int .i64 x, .int .u8 1, .int .u8 k, .int .i64 0, .int .i64 y, .int .u8 o, .int .u8 k, .int .i64 0, .int .i64 0, .int .u8 3, .int .u8 0, .int .i64 0, .int .i64 0] 49)).alloc (.cells #[.string ⟨#[112]⟩, .slice (some ⟨w.heap.size, 0, none⟩) 1 1, .slice none 0 0, .slice (some ⟨w.heap.size + 1, 0, none⟩) 4 4] 26)) = w2 at *
  have k0 := cell_of_row _ _ 0 _ _ _ LY.out.box
  have k1 := cell_of_row _ _ 1 _ _ _ LY.out.box
  have k2 := cell_of_row _ _ 2 _ _ _ LY.out.box
  have k3 := cell_of_row _ _ 3 _ _ _ LY.out.box
  have l2 := LY.out.lt
  go_wp2_with fail
  refine (NW.out _ LY.out).mono ?_
  rintro e W3 ⟨V, B, rfl, ho3, hb3⟩
  obtain ⟨AV, nV, cV, rfl⟩ := ho3.v.slice
  obtain ⟨AB, nB, cB, rfl⟩ := ho3.b.slice
  obtain ⟨b4, r4, z4⟩ := one_block W3 (.cells #[.slice AV nV cV, .slice AB nB cB] 34)
  have L4 := Fact.mk ((LY.out.below hb3).below b4)
  have P4 := Fact.mk ((ho3.below b4).rd)
  clear k0 k1 k2 k3 l2 LY ho3 hb3
  go_upto_region 3 with (fail)
  generalize W3.alloc (.cells #[.slice AV nV cV, .slice AB nB cB] 34) = w4 at *
  have k0 := cell_of_row _ _ 0 _ _ _ L4.out.box
  have k1 := cell_of_row _ _ 1 _ _ _ L4.out.box
  have k2 := cell_of_row _ _ 2 _ _ _ L4.out.box
  have k3 := cell_of_row _ _ 3 _ _ _ L4.out.box
  have l2 := L4.out.lt
  have j0 : w4.cell? ⟨W3.heap.size, 0, none⟩ = some (.slice AV nV cV) := cell_of_row _ _ 0 _ _ _ r4
  have j1 : w4.cell? ⟨W3.heap.size, 1, none⟩ = some (.slice AB nB cB) := cell_of_row _ _ 1 _ _ _ r4
  have l3 : W3.heap.size < w4.heap.size := by rw [z4]; omega
  have HSC := Fact.mk (SC.out w4 _ _ L4.out P4.out)
  clear SC r4 z4 b4
  by_cases hz : (o = 7 ∨ o = 8) ∧ y = 0
  · rw [HS.out, if_pos hz] at HSC
    obtain rfl : (0, 2, 162) = sr := by rw [← HR.out]; unfold sgnR; rw [if_pos hz]
    clear hz
    go_wp2_with fail
    refine HSC.out.mono ?_
    rintro e W5 ⟨V5, B5, O5, rfl, ho5, hO5, hb5⟩
    obtain ⟨AV5, nV5, cV5, rfl⟩ := ho5.v.slice
    obtain ⟨AB5, nB5, cB5, rfl⟩ := ho5.b.slice
    obtain ⟨AO5, cO5, rfl⟩ := hO5.slice2
    have BF := Fact.mk (L4.out.below hb5).bel
    clear ho5 hO5 hb5
    go_wp2
    go_ret2
    exact ⟨rfl, BF.out.alloc BF.out.size _⟩
  · rw [HS.out, if_neg hz] at HSC
    obtain rfl : (signB o k x y, 4, 0) = sr := by rw [← HR.out]; unfold sgnR; rw [if_neg hz]
    clear hz
    clear HS HR
    go_wp2_with fail
    refine HSC.out.mono ?_
    rintro e W5 ⟨V5, B5, O5, rfl, ho5, hO5, hb5⟩
    obtain ⟨AV5, nV5, cV5, rfl⟩ := ho5.v.slice
    obtain ⟨AB5, nB5, cB5, rfl⟩ := ho5.b.slice
    obtain ⟨g5, o5, c5, rfl, hc5⟩ := rd_at64 (hO5.rd oneI64_len) 0 (by show 0 < 1; omega)
    have l5 : g5 < W5.heap.size := World.block_lt_of_cell? W5 _ hc5
    have hc6 : W5.cell? ⟨g5, o5, none⟩ = some (.int .i64 (signB o k x y)) := hc5
    have BF := Fact.mk (L4.out.below hb5).bel
    clear ho5 hO5 hb5 hc5
    go_wp2
    go_ret2
    exact ⟨rfl, BF.out.alloc BF.out.size _⟩
end Go.Proofs.Ytiogpainajokkaa

namespace Go.Proofs.Ytiogpainajokkaa
open Go.RowKit
def awPg : GCode := ⟨⟨#[112]⟩, [⟨⟨#[97]⟩, 1, 3, 0⟩, ⟨⟨#[98]⟩, 2, 1, 0⟩], [], [⟨2, 0, 0, 0⟩, ⟨1, 3, 0, 10⟩, ⟨14, 3, 0, 0⟩, ⟨3, 0, 1, 0⟩]⟩
theorem awPg_wf : awPg.Wf := by
  refine ⟨fun v hv => ?_, fun b hb => absurd hb (by simp [awPg]), fun i hi => ?_⟩
  · simp only [awPg, List.mem_cons, List.not_mem_nil, or_false] at hv
    rcases hv with rfl | rfl <;> exact ⟨by decide, by decide, by decide⟩
  · simp only [awPg, List.mem_cons, List.not_mem_nil, or_false] at hi
    rcases hi with rfl | rfl | rfl | rfl <;> exact ⟨by decide, by decide, by decide, by decide⟩
theorem awPg_check : checkB awPg 4 = 0 := by kernel_rfl
theorem awPg_five : scanB awPg (firstB awPg) [5] 0 = (⟨[5, 1], []⟩, [1], 4, 0) := by kernel_rfl
theorem awPg_ten : scanB awPg (firstB awPg) [10] 0 = (⟨[10, 0], []⟩, [0], 4, 0) := by kernel_rfl
/-- How the program lies in three new blocks. -/
structure AwLay (w W : World) : Prop where
  bel : Below w.heap.size w W
  rd : CodeRd W awPg (.slice (some ⟨w.heap.size, 0, none⟩) 2 2) (.slice none 0 0) (.slice (some ⟨w.heap.size + 1, 0, none⟩) 4 4)
  box : W.heap[w.heap.size + 1 + 1]? = some (.cells #[.string ⟨#[112]⟩, .slice (some ⟨w.heap.size, 0, none⟩) 2 2, .slice none 0 0, .slice (some ⟨w.heap.size + 1, 0, none⟩) 4 4] 26 (0, 0))
  lt : w.heap.size + 1 + 1 < W.heap.size
theorem AwLay.below {w W W' : World} (h : AwLay w W) (hb : Below W.heap.size W W') : AwLay w W' :=
  ⟨h.bel.trans (hb.mono h.bel.size), h.rd.below hb, (hb.block _ h.lt).trans h.box, Nat.lt_of_lt_of_le h.lt hb.size⟩
theorem aw_lay (w : World) : AwLay w (((w.alloc (.cells #[.string ⟨#[97]⟩, .int .u8 1, .int .u8 3, .int .i64 0, .string ⟨#[98]⟩, .int .u8 2, .int .u8 1, .int .i64 0] 43)).alloc (.cells #[.int .u8 2, .int .u8 0, .int .i64 0, .int .i64 0, .int .u8 1, .int .u8 3, .int .i64 0, .int .i64 10, .int .u8 14, .int .u8 3, .int .i64 0, .int .i64 0, .int .u8 3, .int .u8 0, .int .i64 1, .int .i64 0] 49)).alloc (.cells #[.string ⟨#[112]⟩, .slice (some ⟨w.heap.size, 0, none⟩) 2 2, .slice none 0 0, .slice (some ⟨w.heap.size + 1, 0, none⟩) 4 4] 26)) := by
  obtain ⟨W, hW, hb, r1, r2, r3, z⟩ := three_blocks w (.cells #[.string ⟨#[97]⟩, .int .u8 1, .int .u8 3, .int .i64 0, .string ⟨#[98]⟩, .int .u8 2, .int .u8 1, .int .i64 0] 43) (.cells #[.int .u8 2, .int .u8 0, .int .i64 0, .int .i64 0, .int .u8 1, .int .u8 3, .int .i64 0, .int .i64 10, .int .u8 14, .int .u8 3, .int .i64 0, .int .i64 0, .int .u8 3, .int .u8 0, .int .i64 1, .int .i64 0] 49) (.cells #[.string ⟨#[112]⟩, .slice (some ⟨w.heap.size, 0, none⟩) 2 2, .slice none 0 0, .slice (some ⟨w.heap.size + 1, 0, none⟩) 4 4] 26)
  rw [← hW]
  exact ⟨hb, ⟨rd_cells encVar_len (xs := awPg.vars) r1 (by show 2 ≤ _; omega), rd_nil _ _ _, rd_cells encIns_len (xs := awPg.ins) r2 (by show 4 ≤ _; omega)⟩, r3, by omega⟩
theorem rd_one64 {W : World} {g : Nat} {x : Int} {T : TypeId} (h : W.heap[g]? = some (.cells #[.int .i64 x] T (0, 0))) : Rd oneI64 1 W (.slice (some ⟨g, 0, none⟩) 1 1) [x] := rd_cells oneI64_len (xs := [x]) h (by show 1 ≤ _; omega)
set_option maxHeartbeats 4000000 in
set_option maxRecDepth 100000 in
theorem awkS_any (w : World) : Calls Try.prog 13 #[] w fun e w' => e = .returned (.bool true) ∧ Below w.heap.size w w' := by
  have LY := Fact.mk (aw_lay w)
  have NW := Fact.mk (fun W (hW : AwLay w W) => snew_any awPg awPg_wf (by show (4 : Int) < _; omega) _ _ _ 4 W hW.rd)
  have SC := Fact.mk (fun W V B lv x (hW : AwLay w W) (hp : PlRd W (firstB awPg) V B) (hl : Rd oneI64 1 W lv [x]) => scan_any awPg awPg_wf (by show (4 : Int) < _; omega) (firstB awPg) [x] 0 _ _ _ V B lv W hW.rd hp hl (by show 2 ≤ _; omega) (by show 0 ≤ _; omega))
  have HN : Fact (newP awPg 4 = (firstB awPg, 0)) := ⟨by unfold newP; rw [if_pos awPg_check]⟩
  rw [HN.out] at NW
  have SG1 := Fact.mk (fun W => signed_any 8 7 (-2) (by omega) (by kernel_rfl) (by kernel_rfl) W)
  rw [show sgnR 3 8 7 (-2) = (1, 4, 0) by kernel_rfl] at SG1
  have SG2 := Fact.mk (fun W => signed_any 7 7 (-2) (by omega) (by kernel_rfl) (by kernel_rfl) W)
  rw [show sgnR 3 7 7 (-2) = (-3, 4, 0) by kernel_rfl] at SG2
  have SG3 := Fact.mk (fun W => signed_any 7 1 0 (by omega) (by kernel_rfl) (by kernel_rfl) W)
  rw [show sgnR 3 7 1 0 = (0, 2, 162) by kernel_rfl] at SG3
  go_enter Try.func13, Try.ntmps13
  go_upto_region 2 with (fail)
  generalize (((w.alloc (.cells #[.string ⟨#[97]⟩, .int .u8 1, .int .u8 3, .int .i64 0, .string ⟨#[98]⟩, .int .u8 2, .int .u8 1, .int .i64 0] 43)).alloc (.cells #[.int .u8 2, .int .u8 0, .int .i64 0, .int .i64 0, .int .u8 1, .int .u8 3, .int .i64 0, .int .i64 10, .int .u8 14, .int .u8 3, .int .i64 0, .int .i64 0, .int .u8 3, .int .u8 0, .int .i64 1, .int .i64 0] 49)).alloc (.cells #[.string ⟨#[112]⟩, .slice (some ⟨w.heap.size, 0, none⟩) 2 2, .slice none 0 0, .slice (some ⟨w.heap.size + 1, 0, none⟩) 4 4] 26)) = w2 at *
  have k0 := cell_of_row _ _ 0 _ _ _ LY.out.box
  have k1 := cell_of_row _ _ 1 _ _ _ LY.out.box
  have k2 := cell_of_row _ _ 2 _ _ _ LY.out.box
  have k3 := cell_of_row _ _ 3 _ _ _ LY.out.box
  have l2 := LY.out.lt
  go_wp2_with fail
  refine (NW.out _ LY.out).mono ?_
  rintro e W3 ⟨V, B, rfl, ho3, hb3⟩
  obtain ⟨AV, nV, cV, rfl⟩ := ho3.v.slice
  obtain ⟨AB, nB, cB, rfl⟩ := ho3.b.slice
  obtain ⟨b4, r4, z4⟩ := one_block W3 (.cells #[.slice AV nV cV, .slice AB nB cB] 34)
  have L4 := Fact.mk ((LY.out.below hb3).below b4)
  have P4 := Fact.mk ((ho3.below b4).rd)
  clear k0 k1 k2 k3 l2 LY ho3 hb3 NW HN
  go_upto_region 3 with (fail)
  generalize W3.alloc (.cells #[.slice AV nV cV, .slice AB nB cB] 34) = w4 at *
  have k0 := cell_of_row _ _ 0 _ _ _ L4.out.box
  have k1 := cell_of_row _ _ 1 _ _ _ L4.out.box
  have k2 := cell_of_row _ _ 2 _ _ _ L4.out.box
  have k3 := cell_of_row _ _ 3 _ _ _ L4.out.box
  have l2 := L4.out.lt
  have j0 : w4.cell? ⟨W3.heap.size, 0, none⟩ = some (.slice AV nV cV) := cell_of_row _ _ 0 _ _ _ r4
  have j1 : w4.cell? ⟨W3.heap.size, 1, none⟩ = some (.slice AB nB cB) := cell_of_row _ _ 1 _ _ _ r4
  have l3 : W3.heap.size < w4.heap.size := by rw [z4]; omega
  have R4 := Fact.mk r4
  obtain ⟨b5, r5, z5⟩ := one_block w4 (.cells #[.int .i64 5] 2)
  have HSC := Fact.mk (SC.out _ _ _ _ 5 (L4.out.below b5) (P4.out.below b5) (rd_one64 r5))
  rw [awPg_five] at HSC
  have B5 := Fact.mk b5
  clear r4 z4 b4 b5 r5 z5
  go_wp2_with fail
  refine HSC.out.mono ?_
  rintro e W5 ⟨V5, B5', O5, rfl, ho5, hO5, hb5⟩
  obtain ⟨AV5, nV5, cV5, rfl⟩ := ho5.v.slice
  obtain ⟨AB5, nB5, cB5, rfl⟩ := ho5.b.slice
  obtain ⟨AO5, cO5, rfl⟩ := hO5.slice2
  obtain ⟨b6, r6, z6⟩ := one_block W5 (.cells #[.slice AV5 nV5 cV5, .slice AB5 nB5 cB5] 34)
  have B56 := (B5.out.trans (hb5.mono B5.out.size)).trans (b6.mono (B5.out.trans (hb5.mono B5.out.size)).size)
  have L6 := Fact.mk (L4.out.below B56)
  have P6 := Fact.mk (P4.out.below B56)
  have R6 := Fact.mk ((B56.block _ l3).trans R4.out)
  have O6 := Fact.mk ((hO5.rd oneI64_len).below b6)
  have l6 : W3.heap.size < (W5.alloc (.cells #[.slice AV5 nV5 cV5, .slice AB5 nB5 cB5] 34)).heap.size := Nat.lt_of_lt_of_le l3 B56.size
  clear k0 k1 k2 k3 l2 l3 j0 j1 ho5 hO5 hb5 b6 r6 z6 B56 L4 P4 R4 HSC B5
  go_upto_region 4 with (fail)
  generalize W5.alloc (.cells #[.slice AV5 nV5 cV5, .slice AB5 nB5 cB5] 34) = w6 at *
  have k0 := cell_of_row _ _ 0 _ _ _ L6.out.box
  have k1 := cell_of_row _ _ 1 _ _ _ L6.out.box
  have k2 := cell_of_row _ _ 2 _ _ _ L6.out.box
  have k3 := cell_of_row _ _ 3 _ _ _ L6.out.box
  have l2 := L6.out.lt
  have j0 : w6.cell? ⟨W3.heap.size, 0, none⟩ = some (.slice AV nV cV) := cell_of_row _ _ 0 _ _ _ R6.out
  have j1 : w6.cell? ⟨W3.heap.size, 1, none⟩ = some (.slice AB nB cB) := cell_of_row _ _ 1 _ _ _ R6.out
  obtain ⟨b7, r7, z7⟩ := one_block w6 (.cells #[.int .i64 10] 2)
  have HSC := Fact.mk (SC.out _ _ _ _ 10 (L6.out.below b7) (P6.out.below b7) (rd_one64 r7))
  rw [awPg_ten] at HSC
  have B7 := Fact.mk b7
  clear b7 r7 z7
  go_wp2_with fail
  refine HSC.out.mono ?_
  rintro e W7 ⟨V7, B7', O7, rfl, ho7, hO7, hb7⟩
  obtain ⟨AV7, nV7, cV7, rfl⟩ := ho7.v.slice
  obtain ⟨AB7, nB7, cB7, rfl⟩ := ho7.b.slice
  obtain ⟨AO7, cO7, rfl⟩ := hO7.slice2
  obtain ⟨b8, r8, z8⟩ := one_block W7 (.cells #[.slice AV7 nV7 cV7, .slice AB7 nB7 cB7] 34)
  have B78 := (B7.out.trans (hb7.mono B7.out.size)).trans (b8.mono (B7.out.trans (hb7.mono B7.out.size)).size)
  have BL8 := Fact.mk (L6.out.bel.trans (B78.mono L6.out.bel.size))
  have O8 := Fact.mk (O6.out.below B78)
  have Q8 := Fact.mk ((hO7.rd oneI64_len).below b8)
  clear k0 k1 k2 k3 l2 l6 j0 j1 ho7 hO7 hb7 b8 r8 z8 B78 L6 P6 R6 HSC B7 SC O6
  go_upto_region 5 with (fail)
  generalize W7.alloc (.cells #[.slice AV7 nV7 cV7, .slice AB7 nB7 cB7] 34) = w8 at *
  go_wp2_with fail
  refine (SG1.out _).mono ?_
  rintro e W9 ⟨rfl, hb9⟩
  go_wp2_with fail
  refine (SG2.out _).mono ?_
  rintro e W10 ⟨rfl, hb10⟩
  go_wp2_with fail
  refine (SG3.out _).mono ?_
  rintro e W11 ⟨rfl, hb11⟩
  have B811 := (hb9.trans (hb10.mono hb9.size)).trans (hb11.mono (hb9.trans (hb10.mono hb9.size)).size)
  have BL := Fact.mk (BL8.out.trans (B811.mono BL8.out.size))
  have OA := Fact.mk (O8.out.below B811)
  have QA := Fact.mk (Q8.out.below B811)
  clear hb9 hb10 hb11 B811 SG1 SG2 SG3 BL8 O8 Q8
  obtain ⟨c1, d1, z12⟩ := one_block W11 (.cells #[.int .i64 1] 2)
  have SM1 := Fact.mk (same64_any _ _ _ _ _ (OA.out.below c1) (rd_one64 d1))
  have BL12 := Fact.mk (BL.out.trans (c1.mono BL.out.size))
  have QB := Fact.mk (QA.out.below c1)
  clear c1 d1 z12 OA QA BL
  go_wp2_with fail
  refine SM1.out.mono ?_
  rintro e W12 ⟨rfl, hb12⟩
  have BL13 := Fact.mk (BL12.out.trans (hb12.mono BL12.out.size))
  have QC := Fact.mk (QB.out.below hb12)
  obtain ⟨c2, d2, z13⟩ := one_block W12 (.cells #[.int .i64 0] 2)
  have SM2 := Fact.mk (same64_any _ _ _ _ _ (QC.out.below c2) (rd_one64 d2))
  have BL14 := Fact.mk (BL13.out.trans (c2.mono BL13.out.size))
  clear hb12 c2 d2 z13 QB QC BL12 BL13 SM1
  go_wp2_with fail
  refine SM2.out.mono ?_
  rintro e W14 ⟨rfl, hb14⟩
  have BF := Fact.mk (BL14.out.trans (hb14.mono BL14.out.size))
  clear hb14 BL14 SM2
  go_wp2
  go_ret
  exact ⟨rfl, BF.out⟩
end Go.Proofs.Ytiogpainajokkaa

