/- Contract of blockhouseref13.ins: the Ops that look into the program, and the whole. Printed by gen_r13i.py. -/
import Derived.Test.YthiapebodpkamaaRfI
namespace Go.Proofs.Ythiapebodpkamaa
open Go.RowKit
theorem rfit_3 (c : GCode) (t a n : Int) : fitsB c ⟨3, t, a, n⟩ = ((t == 0) && storeB c.vars a && (n == 0)) := by
  have e : fitsB c ⟨3, t, a, n⟩ = (chk c ⟨3, t, a, n⟩ (shapeStr 3)[0] t && chk c ⟨3, t, a, n⟩ (shapeStr 3)[1] a && chk c ⟨3, t, a, n⟩ (shapeStr 3)[2] n) := rfl
  rw [e]
  simp [chk, shapeStr, below_one]
theorem rfit_21 (c : GCode) (t a n : Int) : fitsB c ⟨21, t, a, n⟩ = ((t == 0) && belowB c.blocks.length a && (decide (0 ≤ n) && decide (n < ((pinsOut (c.blocks.getD a.toNat 0)).length : Int)))) := by
  have e : fitsB c ⟨21, t, a, n⟩ = (chk c ⟨21, t, a, n⟩ (shapeStr 21)[0] t && chk c ⟨21, t, a, n⟩ (shapeStr 21)[1] a && chk c ⟨21, t, a, n⟩ (shapeStr 21)[2] n) := rfl
  rw [e]
  simp [chk, shapeStr, below_one]
  rfl
theorem below_yes {m : Nat} {a : Int} (h : belowB (m : Int) a = true) : ∃ k : Nat, a = k ∧ k < m := by
  simp only [belowB, Bool.and_eq_true, decide_eq_true_eq] at h
  exact ⟨a.toNat, by omega, by omega⟩
set_option maxHeartbeats 2000000 in
set_option maxRecDepth 100000 in
theorem rIns_3 (c : GCode) (A1 A2 A3 : Option Addr) (c1 c2 c3 : Nat) (t a n : Int) (ht : 0 ≤ t ∧ t ≤ 255) (hn : (c.vars.length : Int) ≤ 9223372036854775807 ∧ (c.blocks.length : Int) ≤ 9223372036854775807 ∧ (c.ins.length : Int) ≤ 9223372036854775807) (w : World) (hR : Rd encVar 4 w (.slice A1 c.vars.length c1) c.vars) :
    Calls Try.prog 67 #[.agg #[.string c.name, .slice A1 c.vars.length c1, .slice A2 c.blocks.length c2, .slice A3 c.ins.length c3], .agg #[.int .u8 3, .int .u8 t, .int .i64 a, .int .i64 n]] w fun e w' => e = .returned (.bool (fitsB c ⟨3, t, a, n⟩)) ∧ Below w.heap.size w w' := by
  obtain ⟨n1, n2, n3⟩ := hn
  obtain ⟨ht0, ht1⟩ := ht
  rw [rfit_3]
  obtain ⟨lo, hlo⟩ : ∃ lo, (rangeOf t).1 = lo := ⟨_, rfl⟩
  obtain ⟨hi, hhi⟩ : ∃ hi, (rangeOf t).2 = hi := ⟨_, rfl⟩
  obtain ⟨bt, hbt⟩ : ∃ b, (t == 0) = b := ⟨_, rfl⟩
  obtain ⟨bN, hbN⟩ : ∃ b, (n == 0) = b := ⟨_, rfl⟩
  rw [hbt, hbN]
  have Hbt := Fact.mk hbt
  have HbN := Fact.mk hbN
  have HR := Fact.mk (hR.below (two_blocks w (Obj.cells #[.string c.name, .slice A1 c.vars.length c1, .slice A2 c.blocks.length c2, .slice A3 c.ins.length c3] 32) (Obj.cells #[.int .u8 3, .int .u8 t, .int .i64 a, .int .i64 n] 38)).1)
  clear hbt hbN hR
  go_enter Try.func67, Try.ntmps67
  go_wp2_with fail
  refine (rRange_any _ _).mono ?_
  rintro e w' ⟨rfl, rfl⟩
  rw [hlo, hhi]
  go_wp2_with fail
  refine (rKind_any _ _).mono ?_
  rintro e w' ⟨rfl, rfl⟩
  go_upto_region 3 with (fail)
  go_cut [8] from 22 to 32 (fun s wx => s = .bool (belowB c.vars.length a) ∧ wx = rfW w c A1 A2 A3 c1 c2 c3 3 t a n)
  case first =>
    by_cases hp : 0 ≤ a
    · have e1 : decide (0 ≤ a) = true := decide_eq_true hp
      go_wp2_with fail
      go_meet
      exact ⟨by unfold belowB; rw [e1]; rfl, rfl⟩
    · have e1 : decide (0 ≤ a) = false := decide_eq_false hp
      clear hp
      go_wp2_with fail
      go_meet
      exact ⟨by unfold belowB; rw [e1]; rfl, rfl⟩
  case rest =>
    obtain ⟨rfl, rfl⟩ := hcut
    go_upto_region 4 with (fail)
    go_cut [9] from 33 to 43 (fun s wx => s = .bool (belowB c.blocks.length a) ∧ wx = rfW w c A1 A2 A3 c1 c2 c3 3 t a n)
    case first =>
      by_cases hp : 0 ≤ a
      · have e1 : decide (0 ≤ a) = true := decide_eq_true hp
        go_wp2_with fail
        go_meet
        exact ⟨by unfold belowB; rw [e1]; rfl, rfl⟩
      · have e1 : decide (0 ≤ a) = false := decide_eq_false hp
        clear hp
        go_wp2_with fail
        go_meet
        exact ⟨by unfold belowB; rw [e1]; rfl, rfl⟩
    case rest =>
      obtain ⟨rfl, rfl⟩ := hcut
      have hbt := Hbt.out
      have hbN := HbN.out
      cases bt with
      | false =>
        go_wp2_with fail
        go_ret
        exact ⟨rfl, (two_blocks w _ _).1⟩
      | true =>
        cases hbV : belowB c.vars.length a with
        | false =>
          have hs : storeB c.vars a = false := by unfold storeB; rw [hbV]; rfl
          go_wp2_with fail
          go_ret
          exact ⟨ret_bool (by rw [hs]; cases bN <;> rfl), (two_blocks w _ _).1⟩
        | true =>
          cases bN with
          | false =>
            go_wp2_with fail
            go_ret
            exact ⟨ret_bool (by simp), (two_blocks w _ _).1⟩
          | true =>
            obtain ⟨k, hka, hk⟩ := below_yes hbV
            obtain ⟨_, A', c', e, _, _, hc⟩ := HR.out
            cases e
            obtain ⟨b, off, rfl, hc2⟩ := hc (by omega)
            obtain ⟨z, hz⟩ : ∃ z, c.vars[k].cls = z := ⟨_, rfl⟩
            have q1 := hc2 k hk 1 _ rfl
            rw [hz] at q1
            have hs : storeB c.vars a = (z != 1) := by
              unfold storeB
              rw [hbV, hka, Int.toNat_natCast, List.getElem?_eq_getElem hk]
              show (true && decide (c.vars[k].cls ≠ 1)) = (z != 1)
              rw [hz, Bool.true_and]
              by_cases e : z = 1
              · subst e; rfl
              · rw [decide_eq_true e, bne_iff_ne.2 e]
            subst hka
            have HS := Fact.mk hs
            have i1 : (k : Int) < (c.vars.length : Int) := by omega
            clear hs hc hc2 hz
            clear HR
            have q2 : (rfW w c (some ⟨b, off, none⟩) A2 A3 c1 c2 c3 3 t (k : Int) n).cell? ⟨b, off + k * 4 + 1, none⟩ = some (.int .u8 z) := q1
            clear q1 hbV
            go_wp2_with fail
            go_ret
            exact ⟨ret_bool (by rw [HS.out]; simp), (two_blocks w _ _).1⟩
set_option maxHeartbeats 2000000 in
set_option maxRecDepth 100000 in
theorem rIns_21 (c : GCode) (A1 A2 A3 : Option Addr) (c1 c2 c3 : Nat) (t a n : Int) (ht : 0 ≤ t ∧ t ≤ 255) (hn : (c.vars.length : Int) ≤ 9223372036854775807 ∧ (c.blocks.length : Int) ≤ 9223372036854775807 ∧ (c.ins.length : Int) ≤ 9223372036854775807) (w : World) (hR : Rd oneU8 1 w (.slice A2 c.blocks.length c2) c.blocks) :
    Calls Try.prog 67 #[.agg #[.string c.name, .slice A1 c.vars.length c1, .slice A2 c.blocks.length c2, .slice A3 c.ins.length c3], .agg #[.int .u8 21, .int .u8 t, .int .i64 a, .int .i64 n]] w fun e w' => e = .returned (.bool (fitsB c ⟨21, t, a, n⟩)) ∧ Below w.heap.size w w' := by
  obtain ⟨n1, n2, n3⟩ := hn
  obtain ⟨ht0, ht1⟩ := ht
  rw [rfit_21]
  obtain ⟨lo, hlo⟩ : ∃ lo, (rangeOf t).1 = lo := ⟨_, rfl⟩
  obtain ⟨hi, hhi⟩ : ∃ hi, (rangeOf t).2 = hi := ⟨_, rfl⟩
  obtain ⟨bt, hbt⟩ : ∃ b, (t == 0) = b := ⟨_, rfl⟩
  rw [hbt]
  have Hbt := Fact.mk hbt
  have HR := Fact.mk (hR.below (two_blocks w (Obj.cells #[.string c.name, .slice A1 c.vars.length c1, .slice A2 c.blocks.length c2, .slice A3 c.ins.length c3] 32) (Obj.cells #[.int .u8 21, .int .u8 t, .int .i64 a, .int .i64 n] 38)).1)
  clear hbt hR
  go_enter Try.func67, Try.ntmps67
  go_wp2_with fail
  refine (rRange_any _ _).mono ?_
  rintro e w' ⟨rfl, rfl⟩
  rw [hlo, hhi]
  go_wp2_with fail
  refine (rKind_any _ _).mono ?_
  rintro e w' ⟨rfl, rfl⟩
  go_upto_region 3 with (fail)
  go_cut [8] from 22 to 32 (fun s wx => s = .bool (belowB c.vars.length a) ∧ wx = rfW w c A1 A2 A3 c1 c2 c3 21 t a n)
  case first =>
    by_cases hp : 0 ≤ a
    · have e1 : decide (0 ≤ a) = true := decide_eq_true hp
      go_wp2_with fail
      go_meet
      exact ⟨by unfold belowB; rw [e1]; rfl, rfl⟩
    · have e1 : decide (0 ≤ a) = false := decide_eq_false hp
      clear hp
      go_wp2_with fail
      go_meet
      exact ⟨by unfold belowB; rw [e1]; rfl, rfl⟩
  case rest =>
    obtain ⟨rfl, rfl⟩ := hcut
    go_upto_region 4 with (fail)
    go_cut [9] from 33 to 43 (fun s wx => s = .bool (belowB c.blocks.length a) ∧ wx = rfW w c A1 A2 A3 c1 c2 c3 21 t a n)
    case first =>
      by_cases hp : 0 ≤ a
      · have e1 : decide (0 ≤ a) = true := decide_eq_true hp
        go_wp2_with fail
        go_meet
        exact ⟨by unfold belowB; rw [e1]; rfl, rfl⟩
      · have e1 : decide (0 ≤ a) = false := decide_eq_false hp
        clear hp
        go_wp2_with fail
        go_meet
        exact ⟨by unfold belowB; rw [e1]; rfl, rfl⟩
    case rest =>
      obtain ⟨rfl, rfl⟩ := hcut
      have hbt := Hbt.out
      cases bt with
      | false =>
        have e1 : (t != 0) = true := by rw [bne, hbt]; rfl
        go_wp2_with fail
        go_ret
        exact ⟨rfl, (two_blocks w _ _).1⟩
      | true =>
        have e1 : (t != 0) = false := by rw [bne, hbt]; rfl
        cases hbV : belowB c.blocks.length a with
        | false =>
          go_wp2_with fail
          go_ret
          exact ⟨ret_bool (by simp; intro h; rw [hbV] at h; cases h), (two_blocks w _ _).1⟩
        | true =>
          obtain ⟨k, hka, hk⟩ := below_yes hbV
          rw [hka] at hbV
          have HB := Fact.mk hbV
          obtain ⟨_, A', c', e, _, _, hc⟩ := HR.out
          cases e
          obtain ⟨b, off, rfl, hc2⟩ := hc (by omega)
          obtain ⟨z, hz⟩ : ∃ z, c.blocks[k] = z := ⟨_, rfl⟩
          have q1 := hc2 k hk 0 _ rfl
          rw [hz] at q1
          have hgd : c.blocks.getD a.toNat 0 = z := by rw [hka, Int.toNat_natCast, List.getD_eq_getElem?_getD, List.getElem?_eq_getElem hk]; exact hz
          subst hka
          have HS := Fact.mk hgd
          have i1 : (k : Int) < (c.blocks.length : Int) := by omega
          clear hgd hc hc2 hz
          have q2 : (rfW w c A1 (some ⟨b, off, none⟩) A3 c1 c2 c3 21 t (k : Int) n).cell? ⟨b, off + k, none⟩ = some (.int .u8 z) := by
            have : off + k * 1 + 0 = off + k := by omega
            rw [this] at q1; exact q1
          clear q1 hbV
          go_wp2_with fail
          refine (rPins_any z _).mono ?_
          rintro e W1 ⟨v1, v2, rfl, hr1, hr2, hb1⟩
          have B1 := Fact.mk ((two_blocks w _ _).1.trans (hb1.mono (two_blocks w _ _).1.size))
          obtain ⟨m, hm⟩ : ∃ m, (pinsOut z).length = m := ⟨_, rfl⟩
          obtain ⟨X1, x1, y1, rfl⟩ : ∃ A q c', v1 = .slice A q c' := by obtain ⟨_, A, c', h, _⟩ := hr1; exact ⟨A, _, c', h⟩
          obtain ⟨X2, y2, rfl⟩ : ∃ A c', v2 = .slice A m c' := by obtain ⟨_, A, c', h, _⟩ := hr2; exact ⟨A, c', by rw [h, hm]⟩
          have HM := Fact.mk hm
          have p0 : (rfW w c A1 (some ⟨b, off, none⟩) A3 c1 c2 c3 21 t (k : Int) n).heap[w.heap.size + 1]? = some (.cells #[.int .u8 21, .int .u8 t, .int .i64 (k : Int), .int .i64 n] 38 (0, 0)) := (two_blocks w _ _).2.2.1
          have p1 := (hb1.block (w.heap.size + 1) (by rw [(two_blocks w _ _).2.2.2]; omega)).trans p0
          have c3' : W1.cell? ⟨w.heap.size + 1, 3, none⟩ = some (.int .i64 n) := by rw [cell_of_row _ _ 3 _ _ _ p1]; rfl
          have hm9 : (m : Int) ≤ 9223372036854775807 := by have := hr2.1; omega
          clear hr1 hr2 hb1 p0 p1 hm
          cases hp : decide (0 ≤ n) with
          | false =>
            go_wp2_with fail
            go_ret
            exact ⟨ret_bool (by rw [HS.out, HM.out]; simp; intro _ h; have := of_decide_eq_false hp; omega), B1.out⟩
          | true =>
            go_wp2_with fail
            go_ret
            exact ⟨ret_bool (by rw [HS.out, HM.out, HB.out, hp]; simp), B1.out⟩
theorem rfit_no (c : GCode) (o t a n : Int) (hne : ∀ k : Int, 1 ≤ k → k ≤ 22 → o ≠ k) : fitsB c ⟨o, t, a, n⟩ = false := by
  have e : shapeStr o = [] := by
    by_cases h : shapeStr o = []
    · exact h
    · have := shape_op h
      exact absurd rfl (hne o this.1 this.2)
  unfold fitsB
  show (match shapeStr o with | [c0, c1, c2] => _ | _ => false) = false
  rw [e]
set_option maxHeartbeats 2000000 in
set_option maxRecDepth 100000 in
theorem rIns_no (c : GCode) (A1 A2 A3 : Option Addr) (c1 c2 c3 : Nat) (t a n : Int) (ht : 0 ≤ t ∧ t ≤ 255) (hn : (c.vars.length : Int) ≤ 9223372036854775807 ∧ (c.blocks.length : Int) ≤ 9223372036854775807 ∧ (c.ins.length : Int) ≤ 9223372036854775807) (w : World) (o : Int) (hne : ∀ k : Int, 1 ≤ k → k ≤ 22 → o ≠ k) :
    Calls Try.prog 67 #[.agg #[.string c.name, .slice A1 c.vars.length c1, .slice A2 c.blocks.length c2, .slice A3 c.ins.length c3], .agg #[.int .u8 o, .int .u8 t, .int .i64 a, .int .i64 n]] w fun e w' => e = .returned (.bool (fitsB c ⟨o, t, a, n⟩)) ∧ Below w.heap.size w w' := by
  obtain ⟨n1, n2, n3⟩ := hn
  obtain ⟨ht0, ht1⟩ := ht
  obtain ⟨lo, hlo⟩ : ∃ lo, (rangeOf t).1 = lo := ⟨_, rfl⟩
  obtain ⟨hi, hhi⟩ : ∃ hi, (rangeOf t).2 = hi := ⟨_, rfl⟩
  rw [rfit_no c o t a n hne]
  have f1 : (o == 1) = false := beq_eq_false_iff_ne.2 (hne 1 (by decide) (by decide))
  have f2 : (o == 2) = false := beq_eq_false_iff_ne.2 (hne 2 (by decide) (by decide))
  have f3 : (o == 3) = false := beq_eq_false_iff_ne.2 (hne 3 (by decide) (by decide))
  have f4 : (o == 4) = false := beq_eq_false_iff_ne.2 (hne 4 (by decide) (by decide))
  have f5 : (o == 5) = false := beq_eq_false_iff_ne.2 (hne 5 (by decide) (by decide))
  have f6 : (o == 6) = false := beq_eq_false_iff_ne.2 (hne 6 (by decide) (by decide))
  have f7 : (o == 7) = false := beq_eq_false_iff_ne.2 (hne 7 (by decide) (by decide))
  have f8 : (o == 8) = false := beq_eq_false_iff_ne.2 (hne 8 (by decide) (by decide))
  have f9 : (o == 9) = false := beq_eq_false_iff_ne.2 (hne 9 (by decide) (by decide))
  have f10 : (o == 10) = false := beq_eq_false_iff_ne.2 (hne 10 (by decide) (by decide))
  have f11 : (o == 11) = false := beq_eq_false_iff_ne.2 (hne 11 (by decide) (by decide))
  have f12 : (o == 12) = false := beq_eq_false_iff_ne.2 (hne 12 (by decide) (by decide))
  have f13 : (o == 13) = false := beq_eq_false_iff_ne.2 (hne 13 (by decide) (by decide))
  have f14 : (o == 14) = false := beq_eq_false_iff_ne.2 (hne 14 (by decide) (by decide))
  have f15 : (o == 15) = false := beq_eq_false_iff_ne.2 (hne 15 (by decide) (by decide))
  have f16 : (o == 16) = false := beq_eq_false_iff_ne.2 (hne 16 (by decide) (by decide))
  have f17 : (o == 17) = false := beq_eq_false_iff_ne.2 (hne 17 (by decide) (by decide))
  have f18 : (o == 18) = false := beq_eq_false_iff_ne.2 (hne 18 (by decide) (by decide))
  have f19 : (o == 19) = false := beq_eq_false_iff_ne.2 (hne 19 (by decide) (by decide))
  have f20 : (o == 20) = false := beq_eq_false_iff_ne.2 (hne 20 (by decide) (by decide))
  have f21 : (o == 21) = false := beq_eq_false_iff_ne.2 (hne 21 (by decide) (by decide))
  have f22 : (o == 22) = false := beq_eq_false_iff_ne.2 (hne 22 (by decide) (by decide))
  clear hne
  go_enter Try.func67, Try.ntmps67
  go_wp2_with fail
  refine (rRange_any _ _).mono ?_
  rintro e w' ⟨rfl, rfl⟩
  rw [hlo, hhi]
  go_wp2_with fail
  refine (rKind_any _ _).mono ?_
  rintro e w' ⟨rfl, rfl⟩
  go_upto_region 3 with (fail)
  go_cut [8] from 22 to 32 (fun s wx => s = .bool (belowB c.vars.length a) ∧ wx = rfW w c A1 A2 A3 c1 c2 c3 o t a n)
  case first =>
    by_cases hp : 0 ≤ a
    · have e1 : decide (0 ≤ a) = true := decide_eq_true hp
      go_wp2_with fail
      go_meet
      exact ⟨by unfold belowB; rw [e1]; rfl, rfl⟩
    · have e1 : decide (0 ≤ a) = false := decide_eq_false hp
      clear hp
      go_wp2_with fail
      go_meet
      exact ⟨by unfold belowB; rw [e1]; rfl, rfl⟩
  case rest =>
    obtain ⟨rfl, rfl⟩ := hcut
    go_upto_region 4 with (fail)
    go_cut [9] from 33 to 43 (fun s wx => s = .bool (belowB c.blocks.length a) ∧ wx = rfW w c A1 A2 A3 c1 c2 c3 o t a n)
    case first =>
      by_cases hp : 0 ≤ a
      · have e1 : decide (0 ≤ a) = true := decide_eq_true hp
        go_wp2_with fail
        go_meet
        exact ⟨by unfold belowB; rw [e1]; rfl, rfl⟩
      · have e1 : decide (0 ≤ a) = false := decide_eq_false hp
        clear hp
        go_wp2_with fail
        go_meet
        exact ⟨by unfold belowB; rw [e1]; rfl, rfl⟩
    case rest =>
      obtain ⟨rfl, rfl⟩ := hcut
      go_wp2_with fail
      go_ret
      exact ⟨rfl, (two_blocks w _ _).1⟩
theorem rIns_any (c : GCode) (vs bs is : Value) (i : GIns) (hi : i.Wf) (w : World) (h : CodeRd w c vs bs is) :
    Calls Try.prog 67 #[.agg #[.string c.name, vs, bs, is], .agg #[.int .u8 i.op, .int .u8 i.t, .int .i64 i.a, .int .i64 i.n]] w fun e w' => e = .returned (.bool (fitsB c i)) ∧ Below w.heap.size w w' := by
  obtain ⟨A1, c1, rfl⟩ : ∃ A c', vs = .slice A c.vars.length c' := by obtain ⟨_, A, c', h, _⟩ := h.vars; exact ⟨A, c', h⟩
  obtain ⟨A2, c2, rfl⟩ : ∃ A c', bs = .slice A c.blocks.length c' := by obtain ⟨_, A, c', h, _⟩ := h.blocks; exact ⟨A, c', h⟩
  obtain ⟨A3, c3, rfl⟩ : ∃ A c', is = .slice A c.ins.length c' := by obtain ⟨_, A, c', h, _⟩ := h.ins; exact ⟨A, c', h⟩
  obtain ⟨op, t, a, n⟩ := i
  have ht := hi.t
  have hn : (c.vars.length : Int) ≤ 9223372036854775807 ∧ (c.blocks.length : Int) ≤ 9223372036854775807 ∧ (c.ins.length : Int) ≤ 9223372036854775807 := ⟨by have := h.vars.1; omega, by have := h.blocks.1; omega, by have := h.ins.1; omega⟩
  by_cases k1 : op = 1
  · subst k1; exact rIns_1 c A1 A2 A3 c1 c2 c3 t a n ht hn w
  by_cases k2 : op = 2
  · subst k2; exact rIns_2 c A1 A2 A3 c1 c2 c3 t a n ht hn w
  by_cases k3 : op = 3
  · subst k3; exact rIns_3 c A1 A2 A3 c1 c2 c3 t a n ht hn w h.vars
  by_cases k4 : op = 4
  · subst k4; exact rIns_4 c A1 A2 A3 c1 c2 c3 t a n ht hn w
  by_cases k5 : op = 5
  · subst k5; exact rIns_5 c A1 A2 A3 c1 c2 c3 t a n ht hn w
  by_cases k6 : op = 6
  · subst k6; exact rIns_6 c A1 A2 A3 c1 c2 c3 t a n ht hn w
  by_cases k7 : op = 7
  · subst k7; exact rIns_7 c A1 A2 A3 c1 c2 c3 t a n ht hn w
  by_cases k8 : op = 8
  · subst k8; exact rIns_8 c A1 A2 A3 c1 c2 c3 t a n ht hn w
  by_cases k9 : op = 9
  · subst k9; exact rIns_9 c A1 A2 A3 c1 c2 c3 t a n ht hn w
  by_cases k10 : op = 10
  · subst k10; exact rIns_10 c A1 A2 A3 c1 c2 c3 t a n ht hn w
  by_cases k11 : op = 11
  · subst k11; exact rIns_11 c A1 A2 A3 c1 c2 c3 t a n ht hn w
  by_cases k12 : op = 12
  · subst k12; exact rIns_12 c A1 A2 A3 c1 c2 c3 t a n ht hn w
  by_cases k13 : op = 13
  · subst k13; exact rIns_13 c A1 A2 A3 c1 c2 c3 t a n ht hn w
  by_cases k14 : op = 14
  · subst k14; exact rIns_14 c A1 A2 A3 c1 c2 c3 t a n ht hn w
  by_cases k15 : op = 15
  · subst k15; exact rIns_15 c A1 A2 A3 c1 c2 c3 t a n ht hn w
  by_cases k16 : op = 16
  · subst k16; exact rIns_16 c A1 A2 A3 c1 c2 c3 t a n ht hn w
  by_cases k17 : op = 17
  · subst k17; exact rIns_17 c A1 A2 A3 c1 c2 c3 t a n ht hn w
  by_cases k18 : op = 18
  · subst k18; exact rIns_18 c A1 A2 A3 c1 c2 c3 t a n ht hn w
  by_cases k19 : op = 19
  · subst k19; exact rIns_19 c A1 A2 A3 c1 c2 c3 t a n ht hn w
  by_cases k20 : op = 20
  · subst k20; exact rIns_20 c A1 A2 A3 c1 c2 c3 t a n ht hn w
  by_cases k21 : op = 21
  · subst k21; exact rIns_21 c A1 A2 A3 c1 c2 c3 t a n ht hn w h.blocks
  by_cases k22 : op = 22
  · subst k22; exact rIns_22 c A1 A2 A3 c1 c2 c3 t a n ht hn w
  exact rIns_no c A1 A2 A3 c1 c2 c3 t a n ht hn w op (fun k h1 h2 e => by subst e; rcases (by omega : op = 1 ∨ op = 2 ∨ op = 3 ∨ op = 4 ∨ op = 5 ∨ op = 6 ∨ op = 7 ∨ op = 8 ∨ op = 9 ∨ op = 10 ∨ op = 11 ∨ op = 12 ∨ op = 13 ∨ op = 14 ∨ op = 15 ∨ op = 16 ∨ op = 17 ∨ op = 18 ∨ op = 19 ∨ op = 20 ∨ op = 21 ∨ op = 22) with h | h | h | h | h | h | h | h | h | h | h | h | h | h | h | h | h | h | h | h | h | h <;> exact absurd h (by assumption))
end Go.Proofs.Ythiapebodpkamaa

