/- Contracts of blockhouseref14.Steps and Check. Printed by gen_r14t.py. -/
import Derived.Test.YthiapebodpkamaaR14S
import Derived.Test.YthiapebodpkamaaSteps
import Derived.Test.YthiapebodpkamaaJoins
import Derived.Test.YthiapebodpkamaaAwkM
import Derived.Deep.RegionHeld3
import Derived.Deep.DeepCutAuto
import Derived.Deep.QuietTactic
import Derived.BigQuiet
namespace Go.Proofs.Ythiapebodpkamaa
open Go.RowKit
set_option maxRecDepth 100000 in
set_option maxHeartbeats 4000000 in
theorem rSteps_any (c : GCode) (hw : c.Wf) (hn : (c.ins.length : Int) < 9223372036854775807) (vs bs is : Value) (w : World) (h : CodeRd w c vs bs is) :
    Calls Try.prog 23 #[.agg #[.string c.name, vs, bs, is]] w fun e w' => e = .returned (.int .i64 (stepsB c)) ∧ Below w.heap.size w w' := by
  obtain ⟨A1, c1, rfl⟩ : ∃ A c', vs = .slice A c.vars.length c' := by obtain ⟨_, A, c', h, _⟩ := h.vars; exact ⟨A, c', h⟩
  obtain ⟨A2, c2, rfl⟩ : ∃ A c', bs = .slice A c.blocks.length c' := by obtain ⟨_, A, c', h, _⟩ := h.blocks; exact ⟨A, c', h⟩
  obtain ⟨A3, c3, rfl⟩ : ∃ A c', is = .slice A c.ins.length c' := by obtain ⟨_, A, c', h, _⟩ := h.ins; exact ⟨A, c', h⟩
  obtain ⟨hb0, s0, z0⟩ := one_block w (Obj.cells #[.string c.name, .slice A1 c.vars.length c1, .slice A2 c.blocks.length c2, .slice A3 c.ins.length c3] 32)
  have SP := Fact.mk (rSpots_any c hw hn _ _ _ _ (h.below hb0))
  have HB0 := Fact.mk hb0
  have S0 := Fact.mk s0
  have Z0 := Fact.mk z0
  have hn1 : c.ins.length ≤ 9223372036854775806 := by omega
  clear h hb0 s0 hw z0 hn
  obtain ⟨sr, hsr⟩ : ∃ sr, stepsB c = sr := ⟨_, rfl⟩
  rw [hsr]
  have HSR := Fact.mk hsr
  clear hsr
  go_enter Try.func23, Try.ntmps23
  go_wp2_with fail
  refine SP.out.mono ?_
  rintro e W1 ⟨v, rfl, hsp, hb1⟩
  have B1 := Fact.mk (HB0.out.trans (hb1.mono HB0.out.size))
  have S1 := Fact.mk ((hb1.block w.heap.size (by rw [Z0.out]; omega)).trans S0.out)
  have hl1 : w.heap.size < W1.heap.size := by have := hb1.size; rw [Z0.out] at this; omega
  clear hb1 SP S0 Z0 HB0
  obtain ⟨er, her⟩ : ∃ er, (spotsB c).2.2 = er := ⟨_, rfl⟩
  rw [her]
  by_cases h0 : er = 0
  · subst h0
    have PL := Fact.mk (spots_plc her)
    have HRT := Fact.mk (spots_right her)
    have hst : stepsB c = mostB c.ins.length 0 (spotsB c).1 0 := by unfold stepsB; rw [if_pos her]
    obtain ⟨ss, hss⟩ : ∃ ss, (spotsB c).1 = ss := ⟨_, rfl⟩
    rw [hss] at PL hsp hst
    have HMO := Fact.mk hst
    clear hst her
    have hlen := PL.out.len
    have hcs : ∃ S, v = .slice (some ⟨S, 0, none⟩) ss.length ss.length ∧ Places W1 S ss := by
      rcases hsp with ⟨_, h⟩ | ⟨S, _, h1, h2⟩
      · rw [h] at hlen; simp at hlen
      · exact ⟨S, h1, h2⟩
    obtain ⟨S, rfl, hpl⟩ := hcs
    have PP := Fact.mk hpl
    have HLEN := Fact.mk hlen
    have hm2 : ss.length ≤ 100000 := by
      have := (right_parts HRT.out).2.2.2.2.1
      omega
    clear hsp hss hpl hlen
    have ST : Fact (StepsSt W1 W1 c.ins.length ss 0 0) := ⟨⟨Below.refl _ _, by omega, by omega, by rw [List.drop_zero]⟩⟩
    go_wp2_with fail
    go_loopw [6, 7] (fun sm i wr => ∃ (k : Nat) (m : Int), k ≤ ss.length ∧ i = .int .i64 k ∧ sm = .int .i64 m ∧ Fact (StepsSt W1 wr c.ins.length ss k m)) (fun _ i _ => ss.length - (intOf i).toNat)
    case atStart => exact ⟨0, 0, Nat.zero_le _, rfl, rfl, ST⟩
    case round =>
      obtain ⟨k, m, hk, rfl, rfl, hst⟩ := hrel
      by_cases hlt : k < ss.length
      · have HS := Fact.mk hst.out
        obtain ⟨v, cr, cs, cm, hr, -, -, -, -⟩ := (PP.out.below hst.out.bel).at k hlt
        have lo := PL.out.lo k
        have hi := PL.out.hi k
        have m0 := hst.out.m0
        have m1 := hst.out.m1
        have k3 : wr.cell? ⟨w.heap.size, 3, none⟩ = some (.slice A3 c.ins.length c3) := cell_below hst.out.bel _ _ (by rw [cell_of_row _ _ 3 _ _ _ S1.out]; rfl)
        have lS : S < wr.heap.size := (PP.out.below hst.out.bel).lt
        have lw : w.heap.size < wr.heap.size := Nat.lt_of_lt_of_le hl1 hst.out.bel.size
        have i1 : (k : Int) < (ss.length : Int) := by omega
        obtain ⟨rc, hrc⟩ : ∃ rc, (spotAt ss k).reached = rc := ⟨_, rfl⟩
        obtain ⟨mm, hmm⟩ : ∃ mm, (spotAt ss k).steps = mm := ⟨_, rfl⟩
        rw [hrc] at cr
        rw [hmm] at cm lo hi
        have RC := Fact.mk hrc
        have MM := Fact.mk hmm
        have MD := Fact.mk (most_drop (n := c.ins.length) hlt m)
        clear hst hr hrc hmm cs
        by_cases hkn : k < c.ins.length
        · cases rc with
          | false =>
            have HC : Fact (spotCost c.ins.length k (spotAt ss k) = mm) := ⟨by unfold spotCost; rw [RC.out, MM.out]; rfl⟩
            by_cases hmx : m < mm
            · have hmx2 : m ≤ mm := by omega
              have ST5 : Fact (∀ wr', Below W1.heap.size W1 wr' → StepsSt W1 wr' c.ins.length ss (k + 1) (mm)) := ⟨fun wr' hb => ⟨hb, by omega, by omega, by rw [HS.out.most, MD.out, HC.out, show max m (mm) = mm by omega]⟩⟩
              go_wp2_with fail
              go_roundw
              case rel => exact ⟨k + 1, mm, by omega, by go_num, rfl, ⟨ST5.out _ HS.out.bel⟩⟩
              case measure => simp [intOf]; omega
            · have hmx2 : mm ≤ m := by omega
              have ST5 : Fact (∀ wr', Below W1.heap.size W1 wr' → StepsSt W1 wr' c.ins.length ss (k + 1) (m)) := ⟨fun wr' hb => ⟨hb, m0, m1, by rw [HS.out.most, MD.out, HC.out, show max m (mm) = m by omega]⟩⟩
              go_wp2_with fail
              go_roundw
              case rel => exact ⟨k + 1, m, by omega, by go_num, rfl, ⟨ST5.out _ HS.out.bel⟩⟩
              case measure => simp [intOf]; omega
          | true =>
            have HC : Fact (spotCost c.ins.length k (spotAt ss k) = mm + 1) := ⟨by unfold spotCost; rw [RC.out, MM.out, decide_eq_true hkn]; rfl⟩
            by_cases hmx : m < mm + 1
            · have hmx2 : m ≤ mm + 1 := by omega
              have ST5 : Fact (∀ wr', Below W1.heap.size W1 wr' → StepsSt W1 wr' c.ins.length ss (k + 1) (mm + 1)) := ⟨fun wr' hb => ⟨hb, by omega, by omega, by rw [HS.out.most, MD.out, HC.out, show max m (mm + 1) = mm + 1 by omega]⟩⟩
              go_wp2_with fail
              go_roundw
              case rel => exact ⟨k + 1, mm + 1, by omega, by go_num, rfl, ⟨ST5.out _ HS.out.bel⟩⟩
              case measure => simp [intOf]; omega
            · have hmx2 : mm + 1 ≤ m := by omega
              have ST5 : Fact (∀ wr', Below W1.heap.size W1 wr' → StepsSt W1 wr' c.ins.length ss (k + 1) (m)) := ⟨fun wr' hb => ⟨hb, m0, m1, by rw [HS.out.most, MD.out, HC.out, show max m (mm + 1) = m by omega]⟩⟩
              go_wp2_with fail
              go_roundw
              case rel => exact ⟨k + 1, m, by omega, by go_num, rfl, ⟨ST5.out _ HS.out.bel⟩⟩
              case measure => simp [intOf]; omega
        · have HC : Fact (spotCost c.ins.length k (spotAt ss k) = mm) := ⟨by unfold spotCost; rw [MM.out, decide_eq_false hkn, Bool.and_false]; rfl⟩
          by_cases hmx : m < mm
          · have hmx2 : m ≤ mm := by omega
            have ST5 : Fact (∀ wr', Below W1.heap.size W1 wr' → StepsSt W1 wr' c.ins.length ss (k + 1) (mm)) := ⟨fun wr' hb => ⟨hb, by omega, by omega, by rw [HS.out.most, MD.out, HC.out, show max m (mm) = mm by omega]⟩⟩
            go_wp2_with fail
            go_roundw
            case rel => exact ⟨k + 1, mm, by omega, by go_num, rfl, ⟨ST5.out _ HS.out.bel⟩⟩
            case measure => simp [intOf]; omega
          · have hmx2 : mm ≤ m := by omega
            have ST5 : Fact (∀ wr', Below W1.heap.size W1 wr' → StepsSt W1 wr' c.ins.length ss (k + 1) (m)) := ⟨fun wr' hb => ⟨hb, m0, m1, by rw [HS.out.most, MD.out, HC.out, show max m (mm) = m by omega]⟩⟩
            go_wp2_with fail
            go_roundw
            case rel => exact ⟨k + 1, m, by omega, by go_num, rfl, ⟨ST5.out _ HS.out.bel⟩⟩
            case measure => simp [intOf]; omega
      · obtain rfl : k = ss.length := by omega
        have HS := Fact.mk hst.out
        clear hst
        go_wp2_with fail
        go_ret
        refine ⟨ret_int ?_, B1.out.trans (HS.out.bel.mono B1.out.size)⟩
        rw [← HSR.out, HMO.out, HS.out.most, List.drop_length]
        rfl
  · have hb : (er != 0) = true := bne_iff_ne.2 h0
    have hst : sr = 0 := by rw [← HSR.out]; unfold stepsB; rw [if_neg (by rw [her]; exact h0)]
    subst hst
    clear her h0
    have hv : ∃ A n c, v = .slice A n c := by
      rcases hsp with ⟨h, _⟩ | ⟨S, _, h, _⟩
      · exact ⟨_, _, _, h⟩
      · exact ⟨_, _, _, h⟩
    obtain ⟨A, n, c0, rfl⟩ := hv
    clear hsp
    go_wp2
    go_ret
    exact ⟨rfl, B1.out⟩
set_option maxRecDepth 100000 in
set_option maxHeartbeats 2000000 in
theorem rCheck_any (c : GCode) (hw : c.Wf) (hn : (c.ins.length : Int) < 9223372036854775807) (vs bs is : Value) (bud : Int) (w : World) (h : CodeRd w c vs bs is) :
    Calls Try.prog 25 #[.agg #[.string c.name, vs, bs, is], .int .i64 bud] w fun e w' => e = .returned (.int .i64 (checkB c bud)) ∧ Below w.heap.size w w' := by
  obtain ⟨A1, c1, rfl⟩ : ∃ A c', vs = .slice A c.vars.length c' := by obtain ⟨_, A, c', h, _⟩ := h.vars; exact ⟨A, c', h⟩
  obtain ⟨A2, c2, rfl⟩ : ∃ A c', bs = .slice A c.blocks.length c' := by obtain ⟨_, A, c', h, _⟩ := h.blocks; exact ⟨A, c', h⟩
  obtain ⟨A3, c3, rfl⟩ : ∃ A c', is = .slice A c.ins.length c' := by obtain ⟨_, A, c', h, _⟩ := h.ins; exact ⟨A, c', h⟩
  obtain ⟨hb0, s0, z0⟩ := one_block w (Obj.cells #[.string c.name, .slice A1 c.vars.length c1, .slice A2 c.blocks.length c2, .slice A3 c.ins.length c3] 32)
  have SP := Fact.mk (rSpots_any c hw hn _ _ _ _ (h.below hb0))
  have HB0 := Fact.mk hb0
  have S0 := Fact.mk s0
  have Z0 := Fact.mk z0
  have HST := Fact.mk (fun (W : World) (hW : Below w.heap.size w W) => rSteps_any c hw hn _ _ _ W (h.below hW))
  clear h hb0 s0 hw z0 hn
  obtain ⟨cr, hcr⟩ : ∃ cr, checkB c bud = cr := ⟨_, rfl⟩
  rw [hcr]
  have HCR := Fact.mk hcr
  clear hcr
  go_enter Try.func25, Try.ntmps25
  go_wp2_with fail
  refine SP.out.mono ?_
  rintro e W1 ⟨v, rfl, hsp, hb1⟩
  have B1 := Fact.mk (HB0.out.trans (hb1.mono HB0.out.size))
  have S1 := Fact.mk ((hb1.block w.heap.size (by rw [Z0.out]; omega)).trans S0.out)
  have hl1 : w.heap.size < W1.heap.size := by have := hb1.size; rw [Z0.out] at this; omega
  have hv : ∃ A n c, v = .slice A n c := by
    rcases hsp with ⟨h, _⟩ | ⟨S, _, h, _⟩
    · exact ⟨_, _, _, h⟩
    · exact ⟨_, _, _, h⟩
  obtain ⟨A, n, c0, rfl⟩ := hv
  have k0 : W1.cell? ⟨w.heap.size, 0, none⟩ = some (.string c.name) := by rw [cell_of_row _ _ 0 _ _ _ S1.out]; rfl
  have k1 : W1.cell? ⟨w.heap.size, 1, none⟩ = some (.slice A1 c.vars.length c1) := by rw [cell_of_row _ _ 1 _ _ _ S1.out]; rfl
  have k2 : W1.cell? ⟨w.heap.size, 2, none⟩ = some (.slice A2 c.blocks.length c2) := by rw [cell_of_row _ _ 2 _ _ _ S1.out]; rfl
  have k3 : W1.cell? ⟨w.heap.size, 3, none⟩ = some (.slice A3 c.ins.length c3) := by rw [cell_of_row _ _ 3 _ _ _ S1.out]; rfl
  clear hb1 SP S0 Z0 HB0 hsp
  obtain ⟨er, her⟩ : ∃ er, (spotsB c).2.2 = er := ⟨_, rfl⟩
  rw [her]
  by_cases h0 : er = 0
  · subst h0
    obtain ⟨r, hr⟩ : ∃ r, stepsB c = r := ⟨_, rfl⟩
    have hst : cr = if bud < r then 142 else 0 := by rw [← HCR.out]; unfold checkB; rw [if_pos her, hr]
    have HCE := Fact.mk hst
    clear hst her
    go_wp2_with fail
    refine (HST.out _ B1.out).mono ?_
    rintro e W2 ⟨rfl, hb2⟩
    rw [hr]
    have B2 := Fact.mk (B1.out.trans (hb2.mono B1.out.size))
    clear hr hb2 k0 k1 k2 k3
    by_cases hbr : bud < r
    · obtain rfl : cr = 142 := by rw [HCE.out, if_pos hbr]
      go_wp2
      go_ret
      exact ⟨rfl, B2.out⟩
    · obtain rfl : cr = 0 := by rw [HCE.out, if_neg hbr]
      go_wp2
      go_ret
      exact ⟨rfl, B2.out⟩
  · have hb : (er != 0) = true := bne_iff_ne.2 h0
    have hst : cr = er := by rw [← HCR.out]; unfold checkB; rw [if_neg (by rw [her]; exact h0), her]
    subst hst
    clear her h0
    go_wp2
    go_ret
    exact ⟨rfl, B1.out⟩
end Go.Proofs.Ythiapebodpkamaa

namespace Go.Proofs.Ythiapebodpkamaa
open Go.RowKit
theorem spots_some {base : Nat} {w : World} {A : Option Addr} {n c : Nat} {ss : List GSpot} (h : SpotsRd base w (.slice A n c) ss) (hp : 0 < ss.length) : ∃ S, A = some ⟨S, 0, none⟩ ∧ Places w S ss := by
  rcases h with ⟨_, h⟩ | ⟨S, _, h1, h2⟩
  · rw [h] at hp; simp at hp
  · injection h1 with e _ _
    exact ⟨S, e, h2⟩
theorem spots_small (c : GCode) : (spotsB c).1.length ≤ 2001 := by
  by_cases h : (spotsB c).2.2 = 0
  · have := (spots_plc h).len
    have := (right_parts (spots_right h)).2.2.2.2.1
    omega
  · rw [spots_none h]; simp
theorem spots_row {base : Nat} {w : World} {v : Value} {ss : List GSpot} (h : SpotsRd base w v ss) : ∃ A c, v = .slice A ss.length c := by
  rcases h with ⟨rfl, rfl⟩ | ⟨S, _, rfl, _⟩
  · exact ⟨_, _, rfl⟩
  · exact ⟨_, _, rfl⟩
set_option maxRecDepth 100000 in
set_option maxHeartbeats 8000000 in
theorem tells14_any (c : GCode) (hw : c.Wf) (vs bs is : Value) (bud : Int) (w : World) (h : CodeRd w c vs bs is) (hnm : c.name.size ≤ 9223372036854775807) (hnms : ∀ x ∈ c.vars, x.name.size ≤ 9223372036854775807) :
    Calls Try.prog 5 #[.agg #[.string c.name, vs, bs, is], .int .i64 bud] w fun e w' => e = .returned (.bool true) ∧ Below w.heap.size w w' := by
  obtain ⟨A1, c1, rfl⟩ : ∃ A c', vs = .slice A c.vars.length c' := by obtain ⟨_, A, c', h, _⟩ := h.vars; exact ⟨A, c', h⟩
  obtain ⟨A2, c2, rfl⟩ : ∃ A c', bs = .slice A c.blocks.length c' := by obtain ⟨_, A, c', h, _⟩ := h.blocks; exact ⟨A, c', h⟩
  obtain ⟨A3, c3, rfl⟩ : ∃ A c', is = .slice A c.ins.length c' := by obtain ⟨_, A, c', h, _⟩ := h.ins; exact ⟨A, c', h⟩
  have BEL : Fact (Below w.heap.size w (boxed w c A1 A2 A3 c1 c2 c3)) := ⟨(one_block w _).1⟩
  have H := Fact.mk (h.below BEL.out)
  have GR := Fact.mk (great_any c _ _ _ _ H.out hnm hnms)
  have HW := Fact.mk hw
  clear h hw hnm hnms
  go_enter Try.func5, Try.ntmps5
  go_wp2_with fail
  refine GR.out.mono ?_
  rintro e W0 ⟨g, rfl, hg, hb0⟩
  have BB := Fact.mk hb0
  clear hb0 GR
  obtain ⟨k0, k1, k2, k3⟩ : W0.cell? ⟨w.heap.size, 0, none⟩ = some (.string c.name) ∧ W0.cell? ⟨w.heap.size, 1, none⟩ = some (.slice A1 c.vars.length c1) ∧ W0.cell? ⟨w.heap.size, 2, none⟩ = some (.slice A2 c.blocks.length c2) ∧ W0.cell? ⟨w.heap.size, 3, none⟩ = some (.slice A3 c.ins.length c3) := code_cells BB.out
  cases g with
  | true =>
    clear hg
    go_wp2_with fail
    refine (awk14_any _).mono ?_
    rintro e W9 ⟨rfl, hb9⟩
    have B9 := Fact.mk (BB.out.trans (hb9.mono BB.out.size))
    clear hb9
    go_wp2
    go_ret
    exact ⟨rfl, BEL.out.trans (B9.out.mono BEL.out.size)⟩
  | false =>
    obtain ⟨-, -, g3, -⟩ := hg rfl
    have hn9 : (c.ins.length : Int) < 9223372036854775807 := by omega
    have SP := Fact.mk (spots_any c HW.out hn9 _ _ _ _ (H.out.below BB.out))
    have SP2 := Fact.mk (fun (W : World) (hW : Below (boxed w c A1 A2 A3 c1 c2 c3).heap.size (boxed w c A1 A2 A3 c1 c2 c3) W) => rSpots_any c HW.out hn9 _ _ _ W (H.out.below hW))
    have STC := Fact.mk (fun (W : World) (hW : Below (boxed w c A1 A2 A3 c1 c2 c3).heap.size (boxed w c A1 A2 A3 c1 c2 c3) W) => steps_any c HW.out hn9 _ _ _ W (H.out.below hW))
    have STR := Fact.mk (fun (W : World) (hW : Below (boxed w c A1 A2 A3 c1 c2 c3).heap.size (boxed w c A1 A2 A3 c1 c2 c3) W) => rSteps_any c HW.out hn9 _ _ _ W (H.out.below hW))
    have CKC := Fact.mk (fun (W : World) (hW : Below (boxed w c A1 A2 A3 c1 c2 c3).heap.size (boxed w c A1 A2 A3 c1 c2 c3) W) => check_any c HW.out hn9 _ _ _ bud W (H.out.below hW))
    have CKR := Fact.mk (fun (W : World) (hW : Below (boxed w c A1 A2 A3 c1 c2 c3).heap.size (boxed w c A1 A2 A3 c1 c2 c3) W) => rCheck_any c HW.out hn9 _ _ _ bud W (H.out.below hW))
    clear hg hn9 g3
    go_wp2_with fail
    refine SP.out.mono ?_
    rintro e W1 ⟨v, rfl, hsp, hb1⟩
    have BB1 := Fact.mk (BB.out.trans (hb1.mono BB.out.size))
    obtain ⟨A0, c0, rfl⟩ := spots_row hsp
    have SA1 := Fact.mk hsp
    clear hb1 SP BB k0 k1 k2 k3 hsp
    obtain ⟨k0, k1, k2, k3⟩ : W1.cell? ⟨w.heap.size, 0, none⟩ = some (.string c.name) ∧ W1.cell? ⟨w.heap.size, 1, none⟩ = some (.slice A1 c.vars.length c1) ∧ W1.cell? ⟨w.heap.size, 2, none⟩ = some (.slice A2 c.blocks.length c2) ∧ W1.cell? ⟨w.heap.size, 3, none⟩ = some (.slice A3 c.ins.length c3) := code_cells BB1.out
    go_wp2_with fail
    refine (SP2.out _ BB1.out).mono ?_
    rintro e W2 ⟨v2, rfl, hsp2, hb2⟩
    obtain ⟨A9, c9, rfl⟩ := spots_row hsp2
    have BB2 := Fact.mk (BB1.out.trans (hb2.mono BB1.out.size))
    have SA := Fact.mk (SA1.out.below hb2)
    have SB := Fact.mk hsp2
    clear hb2 SP2 BB1 SA1 hsp2 k0 k1 k2 k3
    have hsm := spots_small c
    obtain ⟨ss, hss⟩ : ∃ ss, (spotsB c).1 = ss := ⟨_, rfl⟩
    obtain ⟨N, hN⟩ : ∃ N, (spotsB c).2.1 = N := ⟨_, rfl⟩
    obtain ⟨er, her⟩ : ∃ er, (spotsB c).2.2 = er := ⟨_, rfl⟩
    obtain ⟨sr, hsr⟩ : ∃ sr, stepsB c = sr := ⟨_, rfl⟩
    obtain ⟨cr, hcr⟩ : ∃ cr, checkB c bud = cr := ⟨_, rfl⟩
    rw [hss] at SA SB hsm ⊢
    rw [hN, her]
    rw [hsr] at STC STR
    rw [hcr] at CKC CKR
    clear hss hN her hsr hcr
    obtain ⟨L, hL⟩ : ∃ L, ss.length = L := ⟨_, rfl⟩
    rw [hL] at SA SB hsm ⊢
    have HL := Fact.mk hL
    clear hL
    have KEEP : Fact (∀ W' : World, Below W2.heap.size W2 W' → (W'.cell? ⟨w.heap.size, 0, none⟩ = some (.string c.name) ∧ W'.cell? ⟨w.heap.size, 1, none⟩ = some (.slice A1 c.vars.length c1) ∧ W'.cell? ⟨w.heap.size, 2, none⟩ = some (.slice A2 c.blocks.length c2) ∧ W'.cell? ⟨w.heap.size, 3, none⟩ = some (.slice A3 c.ins.length c3)) ∧ Below W2.heap.size W2 W') := ⟨fun W' hW => ⟨code_cells (BB2.out.trans (hW.mono BB2.out.size)), hW⟩⟩
    have C1 : Fact (∀ W' : World, ((W'.cell? ⟨w.heap.size, 0, none⟩ = some (.string c.name) ∧ W'.cell? ⟨w.heap.size, 1, none⟩ = some (.slice A1 c.vars.length c1) ∧ W'.cell? ⟨w.heap.size, 2, none⟩ = some (.slice A2 c.blocks.length c2) ∧ W'.cell? ⟨w.heap.size, 3, none⟩ = some (.slice A3 c.ins.length c3)) ∧ Below W2.heap.size W2 W') → Calls Try.prog 22 #[.agg #[.string c.name, .slice A1 c.vars.length c1, .slice A2 c.blocks.length c2, .slice A3 c.ins.length c3]] W' fun e w' => e = .returned (.int .i64 sr) ∧ Below W2.heap.size W2 w') :=
      ⟨fun W' hW => (STC.out W' (BB2.out.trans (hW.2.mono BB2.out.size))).mono fun e w' h => ⟨h.1, hW.2.trans (h.2.mono hW.2.size)⟩⟩
    have C2 : Fact (∀ W' : World, ((W'.cell? ⟨w.heap.size, 0, none⟩ = some (.string c.name) ∧ W'.cell? ⟨w.heap.size, 1, none⟩ = some (.slice A1 c.vars.length c1) ∧ W'.cell? ⟨w.heap.size, 2, none⟩ = some (.slice A2 c.blocks.length c2) ∧ W'.cell? ⟨w.heap.size, 3, none⟩ = some (.slice A3 c.ins.length c3)) ∧ Below W2.heap.size W2 W') → Calls Try.prog 23 #[.agg #[.string c.name, .slice A1 c.vars.length c1, .slice A2 c.blocks.length c2, .slice A3 c.ins.length c3]] W' fun e w' => e = .returned (.int .i64 sr) ∧ Below W2.heap.size W2 w') :=
      ⟨fun W' hW => (STR.out W' (BB2.out.trans (hW.2.mono BB2.out.size))).mono fun e w' h => ⟨h.1, hW.2.trans (h.2.mono hW.2.size)⟩⟩
    have C3 : Fact (∀ W' : World, ((W'.cell? ⟨w.heap.size, 0, none⟩ = some (.string c.name) ∧ W'.cell? ⟨w.heap.size, 1, none⟩ = some (.slice A1 c.vars.length c1) ∧ W'.cell? ⟨w.heap.size, 2, none⟩ = some (.slice A2 c.blocks.length c2) ∧ W'.cell? ⟨w.heap.size, 3, none⟩ = some (.slice A3 c.ins.length c3)) ∧ Below W2.heap.size W2 W') → Calls Try.prog 24 #[.agg #[.string c.name, .slice A1 c.vars.length c1, .slice A2 c.blocks.length c2, .slice A3 c.ins.length c3], .int .i64 bud] W' fun e w' => e = .returned (.int .i64 cr) ∧ Below W2.heap.size W2 w') :=
      ⟨fun W' hW => (CKC.out W' (BB2.out.trans (hW.2.mono BB2.out.size))).mono fun e w' h => ⟨h.1, hW.2.trans (h.2.mono hW.2.size)⟩⟩
    have C4 : Fact (∀ W' : World, ((W'.cell? ⟨w.heap.size, 0, none⟩ = some (.string c.name) ∧ W'.cell? ⟨w.heap.size, 1, none⟩ = some (.slice A1 c.vars.length c1) ∧ W'.cell? ⟨w.heap.size, 2, none⟩ = some (.slice A2 c.blocks.length c2) ∧ W'.cell? ⟨w.heap.size, 3, none⟩ = some (.slice A3 c.ins.length c3)) ∧ Below W2.heap.size W2 W') → Calls Try.prog 25 #[.agg #[.string c.name, .slice A1 c.vars.length c1, .slice A2 c.blocks.length c2, .slice A3 c.ins.length c3], .int .i64 bud] W' fun e w' => e = .returned (.int .i64 cr) ∧ Below W2.heap.size W2 w') :=
      ⟨fun W' hW => (CKR.out W' (BB2.out.trans (hW.2.mono BB2.out.size))).mono fun e w' h => ⟨h.1, hW.2.trans (h.2.mono hW.2.size)⟩⟩
    clear STC STR CKC CKR
    obtain ⟨⟨k0, k1, k2, k3⟩, -⟩ := KEEP.out _ (Below.refl _ _)
    have e1 : ((L : Int) != (L : Int)) = false := bne_self_eq_false _
    have e2 : ((N : Int) != (N : Int)) = false := bne_self_eq_false _
    have e3 : (er != er) = false := bne_self_eq_false _
    have e4 : (sr != sr) = false := bne_self_eq_false _
    have e5 : (cr != cr) = false := bne_self_eq_false _
    go_upto_region 5 with (fail)
    go_cut [57] from 27 to 56 (fun x wx => x = .bool false ∧ Fact (Below W2.heap.size W2 wx))
    case first =>
      go_region_held3 (fun W' => (W'.cell? ⟨w.heap.size, 0, none⟩ = some (.string c.name) ∧ W'.cell? ⟨w.heap.size, 1, none⟩ = some (.slice A1 c.vars.length c1) ∧ W'.cell? ⟨w.heap.size, 2, none⟩ = some (.slice A2 c.blocks.length c2) ∧ W'.cell? ⟨w.heap.size, 3, none⟩ = some (.slice A3 c.ins.length c3)) ∧ Below W2.heap.size W2 W')
        (first | exact KEEP.out _ (Below.refl _ _).drew | (refine KEEP.out _ ?_; assumption))
        (first | (go_at_call 22; (with_reducible refine (C1.out _ (by assumption)).mono ?_); rintro e W6 ⟨rfl, hb6⟩) | (go_at_call 23; (with_reducible refine (C2.out _ (by assumption)).mono ?_); rintro e W6 ⟨rfl, hb6⟩) | (go_at_call 24; (with_reducible refine (C3.out _ (by assumption)).mono ?_); rintro e W6 ⟨rfl, hb6⟩) | (go_at_call 25; (with_reducible refine (C4.out _ (by assumption)).mono ?_); rintro e W6 ⟨rfl, hb6⟩))
      all_goals (go_wp2_with fail; go_meet; exact ⟨rfl, ⟨hb6⟩⟩)
    case rest =>
      obtain ⟨rfl, hb6⟩ := hcut
      clear k0 k1 k2 k3 C1 C2 C3 C4 KEEP e1 e2 e3 e4 e5
      go_wp2_with fail
      go_loopw [60] (fun i wr => ∃ j : Nat, j ≤ L ∧ i = .int .i64 j ∧ Fact (Below W2.heap.size W2 wr)) (fun i _ => L - (intOf i).toNat)
      case atStart => exact ⟨0, Nat.zero_le _, rfl, hb6⟩
      case round =>
        clear hb6
        obtain ⟨j, hj, rfl, hbr⟩ := hrel
        by_cases hlt : j < L
        · obtain ⟨S1, rfl, pa⟩ := spots_some SA.out (by rw [HL.out]; omega)
          obtain ⟨S2, rfl, pb⟩ := spots_some SB.out (by rw [HL.out]; omega)
          obtain ⟨q1, a0, a1, a2, ra, -, -, -, -⟩ := (pa.below hbr.out).at j (by rw [HL.out]; exact hlt)
          obtain ⟨q2, b0, b1, b2, rb, -, -, -, -⟩ := (pb.below hbr.out).at j (by rw [HL.out]; exact hlt)
          have SAME : Fact (∀ n, Calls Try.prog 26 #[q1, q2] (wr.drewN n) fun e w' => e = .returned (.bool true) ∧ ∃ m, w' = (wr.drewN n).drewN m) :=
            ⟨fun n => (same14_any (wr.drewN n) _ _ _ _ (ra.move fun a u h => h) (rb.move fun a u h => h)).mono fun e w' h => ⟨by rw [h.1, decide_eq_true rfl], h.2⟩⟩
          obtain ⟨st, hst⟩ : ∃ st, (spotAt ss j).steps = st := ⟨_, rfl⟩
          obtain ⟨rr, hrr⟩ : ∃ rr, (spotAt ss j).reached = rr := ⟨_, rfl⟩
          rw [hst] at a2 b2
          rw [hrr] at a0 b0
          have i1 : (j : Int) < (L : Int) := by omega
          have e0 : (st != st) = false := bne_self_eq_false st
          have e1 : (rr != rr) = false := bne_self_eq_false rr
          clear ra rb hst hrr pa pb
          go_wp2_with fail
          go_quiet ((go_at_call 26; exact Calls.quiet_of (SAME.out _)))
          clear a0 a1 a2 b0 b1 b2 SAME i1
          go_wp2_with fail
          go_roundw
          case rel => exact ⟨j + 1, by omega, by go_num, ⟨drewN_bel hbr.out _⟩⟩
          case measure => simp [intOf]; omega
        · obtain rfl : j = L := by omega
          go_wp2_with fail
          refine (awk14_any _).mono ?_
          rintro e W9 ⟨rfl, hb9⟩
          have B9 := Fact.mk ((BB2.out.trans (hbr.out.mono BB2.out.size)).trans (hb9.mono (Nat.le_trans BB2.out.size hbr.out.size)))
          clear hb9
          go_wp2
          go_ret
          exact ⟨rfl, BEL.out.trans (B9.out.mono BEL.out.size)⟩
end Go.Proofs.Ythiapebodpkamaa

