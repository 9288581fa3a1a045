/- Contracts of check.Steps and check.Check. -/
import Derived.Test.YthiapebodpkamaaSpots
namespace Go.Proofs.Ythiapebodpkamaa
open Go.RowKit
theorem walk_plc {c : GCode} : ∀ (f k : Nat) (ss : List GSpot), PlcOk c ss → (walkB c f k ss).2.2 = 0 → PlcOk c (walkB c f k ss).1 := by
  intro f
  induction f with
  | zero => intro k ss h _; exact h
  | succ f ih =>
    intro k ss h h0
    unfold walkB at h0 ⊢
    by_cases hs : (stepAt c ss k).2 = 0
    · rw [if_pos hs] at h0 ⊢
      exact ih _ _ (plc_step h hs) h0
    · rw [if_neg hs] at h0; exact absurd h0 hs
theorem spots_right {c : GCode} (h : (spotsB c).2.2 = 0) : rightB c = true := by
  unfold spotsB at h
  by_cases hr : rightB c = true
  · exact hr
  · rw [if_neg hr] at h; cases h
theorem spots_plc {c : GCode} (h : (spotsB c).2.2 = 0) : PlcOk c (spotsB c).1 := by
  have hr := spots_right h
  unfold spotsB at h ⊢
  rw [if_pos hr] at h ⊢
  exact walk_plc _ _ _ (plc_start c) h
theorem spots_none {c : GCode} (h : (spotsB c).2.2 ≠ 0) : (spotsB c).1 = [] := by
  unfold spotsB at h ⊢
  by_cases hr : rightB c = true
  · rw [if_pos hr] at h ⊢; exact walk_err h
  · rw [if_neg hr]
theorem most_drop {n : Nat} {ss : List GSpot} {k : Nat} (hk : k < ss.length) (m : Int) : mostB n k (ss.drop k) m = mostB n (k + 1) (ss.drop (k + 1)) (max m (spotCost n k (spotAt ss k))) := by
  rw [List.drop_eq_getElem_cons hk, mostB]
  have e : spotAt ss k = ss[k] := by unfold spotAt; rw [List.getD_eq_getElem?_getD, List.getElem?_eq_getElem hk]; rfl
  rw [e]
theorem SpotsRd.below {base : Nat} {w w' : World} {v : Value} {ss : List GSpot} (h : SpotsRd base w v ss) (hb : Below w.heap.size w w') : SpotsRd base w' v ss := by
  rcases h with h | ⟨S, h1, h2, h3⟩
  · exact .inl h
  · exact .inr ⟨S, h1, h2, h3.below hb⟩
structure StepsSt (W1 wr : World) (n : Nat) (ss : List GSpot) (k : Nat) (m : Int) : Prop where
  bel : Below W1.heap.size W1 wr
  m0 : 0 ≤ m
  m1 : m ≤ 100000
  most : mostB n 0 ss 0 = mostB n k (ss.drop k) m
set_option maxRecDepth 100000 in
set_option maxHeartbeats 4000000 in
theorem steps_any (c : GCode) (hw : c.Wf) (hn : (c.ins.length : Int) < 9223372036854775807) (vs bs is : Value) (w : World) (h : CodeRd w c vs bs is) :
    Calls Try.prog 22 #[.agg #[.string c.name, vs, bs, is]] w fun e w' => e = .returned (.int .i64 (stepsB c)) ∧ Below w.heap.size w w' := by
  obtain ⟨A1, c1, rfl⟩ : ∃ A c', vs = .slice A c.vars.length c' := by obtain ⟨_, A, c', h, _⟩ := h.vars; exact ⟨A, c', h⟩
  obtain ⟨A2, c2, rfl⟩ : ∃ A c', bs = .slice A c.blocks.length c' := by obtain ⟨_, A, c', h, _⟩ := h.blocks; exact ⟨A, c', h⟩
  obtain ⟨A3, c3, rfl⟩ : ∃ A c', is = .slice A c.ins.length c' := by obtain ⟨_, A, c', h, _⟩ := h.ins; exact ⟨A, c', h⟩
  obtain ⟨hb0, s0, z0⟩ := one_block w (Obj.cells #[.string c.name, .slice A1 c.vars.length c1, .slice A2 c.blocks.length c2, .slice A3 c.ins.length c3] 32)
  have SP := Fact.mk (spots_any c hw hn _ _ _ _ (h.below hb0))
  have HB0 := Fact.mk hb0
  have S0 := Fact.mk s0
  have Z0 := Fact.mk z0
  have hn1 : c.ins.length ≤ 9223372036854775806 := by omega
  clear h hb0 s0 hw z0 hn
  obtain ⟨sr, hsr⟩ : ∃ sr, stepsB c = sr := ⟨_, rfl⟩
  rw [hsr]
  have HSR := Fact.mk hsr
  clear hsr
  go_enter Try.func22, Try.ntmps22
  go_wp2_with fail
  refine SP.out.mono ?_
  rintro e W1 ⟨v, rfl, hsp, hb1⟩
  have B1 := Fact.mk (HB0.out.trans (hb1.mono HB0.out.size))
  have S1 := Fact.mk ((hb1.block w.heap.size (by rw [Z0.out]; omega)).trans S0.out)
  have hl1 : w.heap.size < W1.heap.size := by have := hb1.size; rw [Z0.out] at this; omega
  clear hb1 SP S0 Z0 HB0
  obtain ⟨er, her⟩ : ∃ er, (spotsB c).2.2 = er := ⟨_, rfl⟩
  rw [her]
  by_cases h0 : er = 0
  · subst h0
    have PL := Fact.mk (spots_plc her)
    have HRT := Fact.mk (spots_right her)
    have hst : stepsB c = mostB c.ins.length 0 (spotsB c).1 0 := by unfold stepsB; rw [if_pos her]
    obtain ⟨ss, hss⟩ : ∃ ss, (spotsB c).1 = ss := ⟨_, rfl⟩
    rw [hss] at PL hsp hst
    have HMO := Fact.mk hst
    clear hst her
    have hlen := PL.out.len
    have hcs : ∃ S, v = .slice (some ⟨S, 0, none⟩) ss.length ss.length ∧ Places W1 S ss := by
      rcases hsp with ⟨_, h⟩ | ⟨S, _, h1, h2⟩
      · rw [h] at hlen; simp at hlen
      · exact ⟨S, h1, h2⟩
    obtain ⟨S, rfl, hpl⟩ := hcs
    have PP := Fact.mk hpl
    have HLEN := Fact.mk hlen
    have hm2 : ss.length ≤ 100000 := by
      have := (right_parts HRT.out).2.2.2.2.1
      omega
    clear hsp hss hpl hlen
    have ST : Fact (StepsSt W1 W1 c.ins.length ss 0 0) := ⟨⟨Below.refl _ _, by omega, by omega, by rw [List.drop_zero]⟩⟩
    go_wp2_with fail
    go_loopw [6, 19] (fun sm i wr => ∃ (k : Nat) (m : Int), k ≤ ss.length ∧ i = .int .i64 k ∧ sm = .int .i64 m ∧ Fact (StepsSt W1 wr c.ins.length ss k m)) (fun _ i _ => ss.length - (intOf i).toNat)
    case atStart => exact ⟨0, 0, Nat.zero_le _, rfl, rfl, ST⟩
    case round =>
      obtain ⟨k, m, hk, rfl, rfl, hst⟩ := hrel
      by_cases hlt : k < ss.length
      · have HS := Fact.mk hst.out
        obtain ⟨v, cr, cs, cm, hr, -, -, -, -⟩ := (PP.out.below hst.out.bel).at k hlt
        obtain ⟨B, b0, rfl⟩ : ∃ B b0, v = .slice B (spotAt ss k).stack.length b0 := by
          obtain ⟨_, A, a0, e, _⟩ := hr
          exact ⟨A, a0, e⟩
        have lo := PL.out.lo k
        have hi := PL.out.hi k
        have m0 := hst.out.m0
        have m1 := hst.out.m1
        have k3 : wr.cell? ⟨w.heap.size, 3, none⟩ = some (.slice A3 c.ins.length c3) := cell_below hst.out.bel _ _ (by rw [cell_of_row _ _ 3 _ _ _ S1.out]; rfl)
        have lS : S < wr.heap.size := (PP.out.below hst.out.bel).lt
        have lw : w.heap.size < wr.heap.size := Nat.lt_of_lt_of_le hl1 hst.out.bel.size
        have i1 : (k : Int) < (ss.length : Int) := by omega
        obtain ⟨rc, hrc⟩ : ∃ rc, (spotAt ss k).reached = rc := ⟨_, rfl⟩
        obtain ⟨mm, hmm⟩ : ∃ mm, (spotAt ss k).steps = mm := ⟨_, rfl⟩
        obtain ⟨sl, hsl⟩ : ∃ sl, (spotAt ss k).stack.length = sl := ⟨_, rfl⟩
        rw [hrc] at cr
        rw [hmm] at cm lo hi
        rw [hsl] at cs
        have RC := Fact.mk hrc
        have MM := Fact.mk hmm
        have MD := Fact.mk (most_drop (n := c.ins.length) hlt m)
        clear hst hr hrc hmm hsl
        cases rc with
        | false =>
          have HC : Fact (spotCost c.ins.length k (spotAt ss k) = mm) := ⟨by unfold spotCost; rw [RC.out, MM.out]; rfl⟩
          by_cases hmx : m < mm
          · have hmx2 : m ≤ mm := by omega
            have ST5 : Fact (∀ wr', Below W1.heap.size W1 wr' → StepsSt W1 wr' c.ins.length ss (k + 1) (mm)) := ⟨fun wr' hb => ⟨hb, by omega, by omega, by rw [HS.out.most, MD.out, HC.out, show max m (mm) = mm by omega]⟩⟩
            go_wp2_with fail
            go_roundw
            case rel => exact ⟨k + 1, mm, by omega, by go_num, rfl, ⟨ST5.out _ (HS.out.bel.alloc HS.out.bel.size _)⟩⟩
            case measure => simp [intOf]; omega
          · have hmx2 : mm ≤ m := by omega
            have ST5 : Fact (∀ wr', Below W1.heap.size W1 wr' → StepsSt W1 wr' c.ins.length ss (k + 1) m) := ⟨fun wr' hb => ⟨hb, m0, m1, by rw [HS.out.most, MD.out, HC.out, show max m (mm) = m by omega]⟩⟩
            go_wp2_with fail
            go_roundw
            case rel => exact ⟨k + 1, m, by omega, by go_num, rfl, ⟨ST5.out _ (HS.out.bel.alloc HS.out.bel.size _)⟩⟩
            case measure => simp [intOf]; omega
        | true =>
          by_cases hkn : k < c.ins.length
          · have HC : Fact (spotCost c.ins.length k (spotAt ss k) = mm + 1) := ⟨by unfold spotCost; rw [RC.out, MM.out, decide_eq_true hkn]; rfl⟩
            by_cases hmx : m < mm + 1
            · have hmx2 : m ≤ mm + 1 := by omega
              have ST5 : Fact (∀ wr', Below W1.heap.size W1 wr' → StepsSt W1 wr' c.ins.length ss (k + 1) (mm + 1)) := ⟨fun wr' hb => ⟨hb, by omega, by omega, by rw [HS.out.most, MD.out, HC.out, show max m (mm + 1) = mm + 1 by omega]⟩⟩
              go_wp2_with fail
              go_roundw
              case rel => exact ⟨k + 1, mm + 1, by omega, by go_num, rfl, ⟨ST5.out _ (HS.out.bel.alloc HS.out.bel.size _)⟩⟩
              case measure => simp [intOf]; omega
            · have hmx2 : mm + 1 ≤ m := by omega
              have ST5 : Fact (∀ wr', Below W1.heap.size W1 wr' → StepsSt W1 wr' c.ins.length ss (k + 1) m) := ⟨fun wr' hb => ⟨hb, m0, m1, by rw [HS.out.most, MD.out, HC.out, show max m (mm + 1) = m by omega]⟩⟩
              go_wp2_with fail
              go_roundw
              case rel => exact ⟨k + 1, m, by omega, by go_num, rfl, ⟨ST5.out _ (HS.out.bel.alloc HS.out.bel.size _)⟩⟩
              case measure => simp [intOf]; omega
          · have HC : Fact (spotCost c.ins.length k (spotAt ss k) = mm) := ⟨by unfold spotCost; rw [RC.out, MM.out, decide_eq_false hkn]; rfl⟩
            by_cases hmx : m < mm
            · have hmx2 : m ≤ mm := by omega
              have ST5 : Fact (∀ wr', Below W1.heap.size W1 wr' → StepsSt W1 wr' c.ins.length ss (k + 1) (mm)) := ⟨fun wr' hb => ⟨hb, by omega, by omega, by rw [HS.out.most, MD.out, HC.out, show max m (mm) = mm by omega]⟩⟩
              go_wp2_with fail
              go_roundw
              case rel => exact ⟨k + 1, mm, by omega, by go_num, rfl, ⟨ST5.out _ (HS.out.bel.alloc HS.out.bel.size _)⟩⟩
              case measure => simp [intOf]; omega
            · have hmx2 : mm ≤ m := by omega
              have ST5 : Fact (∀ wr', Below W1.heap.size W1 wr' → StepsSt W1 wr' c.ins.length ss (k + 1) m) := ⟨fun wr' hb => ⟨hb, m0, m1, by rw [HS.out.most, MD.out, HC.out, show max m (mm) = m by omega]⟩⟩
              go_wp2_with fail
              go_roundw
              case rel => exact ⟨k + 1, m, by omega, by go_num, rfl, ⟨ST5.out _ (HS.out.bel.alloc HS.out.bel.size _)⟩⟩
              case measure => simp [intOf]; omega
      · obtain rfl : k = ss.length := by omega
        have HS := Fact.mk hst.out
        clear hst
        go_wp2_with fail
        go_ret
        refine ⟨ret_int ?_, B1.out.trans (HS.out.bel.mono B1.out.size)⟩
        rw [← HSR.out, HMO.out, HS.out.most, List.drop_length]
        rfl
  · have hb : (er != 0) = true := bne_iff_ne.2 h0
    have hst : sr = 0 := by rw [← HSR.out]; unfold stepsB; rw [if_neg (by rw [her]; exact h0)]
    subst hst
    clear her h0
    have hv : ∃ A n c, v = .slice A n c := by
      rcases hsp with ⟨h, _⟩ | ⟨S, _, h, _⟩
      · exact ⟨_, _, _, h⟩
      · exact ⟨_, _, _, h⟩
    obtain ⟨A, n, c0, rfl⟩ := hv
    clear hsp
    go_wp2
    go_ret
    exact ⟨rfl, B1.out⟩
set_option maxRecDepth 100000 in
set_option maxHeartbeats 2000000 in
theorem check_any (c : GCode) (hw : c.Wf) (hn : (c.ins.length : Int) < 9223372036854775807) (vs bs is : Value) (bud : Int) (w : World) (h : CodeRd w c vs bs is) :
    Calls Try.prog 24 #[.agg #[.string c.name, vs, bs, is], .int .i64 bud] w fun e w' => e = .returned (.int .i64 (checkB c bud)) ∧ Below w.heap.size w w' := by
  obtain ⟨A1, c1, rfl⟩ : ∃ A c', vs = .slice A c.vars.length c' := by obtain ⟨_, A, c', h, _⟩ := h.vars; exact ⟨A, c', h⟩
  obtain ⟨A2, c2, rfl⟩ : ∃ A c', bs = .slice A c.blocks.length c' := by obtain ⟨_, A, c', h, _⟩ := h.blocks; exact ⟨A, c', h⟩
  obtain ⟨A3, c3, rfl⟩ : ∃ A c', is = .slice A c.ins.length c' := by obtain ⟨_, A, c', h, _⟩ := h.ins; exact ⟨A, c', h⟩
  obtain ⟨hb0, s0, z0⟩ := one_block w (Obj.cells #[.string c.name, .slice A1 c.vars.length c1, .slice A2 c.blocks.length c2, .slice A3 c.ins.length c3] 32)
  have SP := Fact.mk (spots_any c hw hn _ _ _ _ (h.below hb0))
  have HB0 := Fact.mk hb0
  have S0 := Fact.mk s0
  have Z0 := Fact.mk z0
  have HST := Fact.mk (fun (W : World) (hW : Below w.heap.size w W) => steps_any c hw hn _ _ _ W (h.below hW))
  clear h hb0 s0 hw z0 hn
  obtain ⟨cr, hcr⟩ : ∃ cr, checkB c bud = cr := ⟨_, rfl⟩
  rw [hcr]
  have HCR := Fact.mk hcr
  clear hcr
  go_enter Try.func24, Try.ntmps24
  go_wp2_with fail
  refine SP.out.mono ?_
  rintro e W1 ⟨v, rfl, hsp, hb1⟩
  have B1 := Fact.mk (HB0.out.trans (hb1.mono HB0.out.size))
  have S1 := Fact.mk ((hb1.block w.heap.size (by rw [Z0.out]; omega)).trans S0.out)
  have hl1 : w.heap.size < W1.heap.size := by have := hb1.size; rw [Z0.out] at this; omega
  have hv : ∃ A n c, v = .slice A n c := by
    rcases hsp with ⟨h, _⟩ | ⟨S, _, h, _⟩
    · exact ⟨_, _, _, h⟩
    · exact ⟨_, _, _, h⟩
  obtain ⟨A, n, c0, rfl⟩ := hv
  have k0 : W1.cell? ⟨w.heap.size, 0, none⟩ = some (.string c.name) := by rw [cell_of_row _ _ 0 _ _ _ S1.out]; rfl
  have k1 : W1.cell? ⟨w.heap.size, 1, none⟩ = some (.slice A1 c.vars.length c1) := by rw [cell_of_row _ _ 1 _ _ _ S1.out]; rfl
  have k2 : W1.cell? ⟨w.heap.size, 2, none⟩ = some (.slice A2 c.blocks.length c2) := by rw [cell_of_row _ _ 2 _ _ _ S1.out]; rfl
  have k3 : W1.cell? ⟨w.heap.size, 3, none⟩ = some (.slice A3 c.ins.length c3) := by rw [cell_of_row _ _ 3 _ _ _ S1.out]; rfl
  clear hb1 SP S0 Z0 HB0 hsp
  obtain ⟨er, her⟩ : ∃ er, (spotsB c).2.2 = er := ⟨_, rfl⟩
  rw [her]
  by_cases h0 : er = 0
  · subst h0
    obtain ⟨r, hr⟩ : ∃ r, stepsB c = r := ⟨_, rfl⟩
    have hst : cr = if bud < r then 142 else 0 := by rw [← HCR.out]; unfold checkB; rw [if_pos her, hr]
    have HCE := Fact.mk hst
    clear hst her
    go_wp2_with fail
    refine (HST.out _ B1.out).mono ?_
    rintro e W2 ⟨rfl, hb2⟩
    rw [hr]
    have B2 := Fact.mk (B1.out.trans (hb2.mono B1.out.size))
    clear hr hb2 k0 k1 k2 k3
    by_cases hbr : bud < r
    · obtain rfl : cr = 142 := by rw [HCE.out, if_pos hbr]
      go_wp2
      go_ret
      exact ⟨rfl, B2.out⟩
    · obtain rfl : cr = 0 := by rw [HCE.out, if_neg hbr]
      go_wp2
      go_ret
      exact ⟨rfl, B2.out⟩
  · have hb : (er != 0) = true := bne_iff_ne.2 h0
    have hst : cr = er := by rw [← HCR.out]; unfold checkB; rw [if_neg (by rw [her]; exact h0), her]
    subst hst
    clear her h0
    go_wp2
    go_ret
    exact ⟨rfl, B1.out⟩
end Go.Proofs.Ythiapebodpkamaa

