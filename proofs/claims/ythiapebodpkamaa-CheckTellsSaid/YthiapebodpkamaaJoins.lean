/- CheckJoins: the walk. -/
import Derived.Test.YthiapebodpkamaaDeadM
import Derived.Test.YthiapebodpkamaaAwkM
namespace Go.Proofs.Ythiapebodpkamaa
open Go.RowKit
def oneBl (x : Bool) : List Value := [.bool x]
theorem oneBl_len (x : Bool) : (oneBl x).length = 1 := rfl
theorem Rd.atBl {w : World} {v : Value} {xs : List Bool} (h : Rd oneBl 1 w v xs) (i : Nat) (hi : i < xs.length) : ∃ b off c, v = .slice (some ⟨b, off, none⟩) xs.length c ∧ w.cell? ⟨b, off + i, none⟩ = some (.bool xs[i]) := by
  obtain ⟨h0, A, c, rfl, h2, h4, h3⟩ := h
  obtain ⟨b, off, rfl, hc⟩ := h3 (by omega)
  refine ⟨b, off, c, rfl, ?_⟩
  have := hc i hi 0 (.bool xs[i]) rfl
  rwa [show off + i * 1 + 0 = off + i by omega] at this
/-- A program that came in, boxed. -/
abbrev boxed (w : World) (c : GCode) (A1 A2 A3 : Option Addr) (c1 c2 c3 : Nat) : World := w.alloc (Obj.cells #[.string c.name, .slice A1 c.vars.length c1, .slice A2 c.blocks.length c2, .slice A3 c.ins.length c3] 32)
theorem code_cells {w W : World} {c : GCode} {A1 A2 A3 : Option Addr} {c1 c2 c3 : Nat} (h : Below (boxed w c A1 A2 A3 c1 c2 c3).heap.size (boxed w c A1 A2 A3 c1 c2 c3) W) : W.cell? ⟨w.heap.size, 0, none⟩ = some (.string c.name) ∧ W.cell? ⟨w.heap.size, 1, none⟩ = some (.slice A1 c.vars.length c1) ∧ W.cell? ⟨w.heap.size, 2, none⟩ = some (.slice A2 c.blocks.length c2) ∧ W.cell? ⟨w.heap.size, 3, none⟩ = some (.slice A3 c.ins.length c3) := by
  have a := (h.block w.heap.size (by simp)).trans (heap_alloc_new w _)
  exact ⟨by rw [cell_of_row _ _ 0 _ _ _ a]; rfl, by rw [cell_of_row _ _ 1 _ _ _ a]; rfl, by rw [cell_of_row _ _ 2 _ _ _ a]; rfl, by rw [cell_of_row _ _ 3 _ _ _ a]; rfl⟩
structure JoinSt (W1 wr : World) (c : GCode) (k m : Nat) : Prop where
  bel : Below W1.heap.size W1 wr
  hk : k ≤ c.ins.length
  reached : (spotAt (spotsB c).1 k).reached = true
  steps : (m : Int) ≤ (spotAt (spotsB c).1 k).steps
set_option maxRecDepth 100000 in
set_option maxHeartbeats 8000000 in
theorem joins_any (c : GCode) (hw : c.Wf) (vs bs is vt : Value) (ts : List Bool) (w : World) (h : CodeRd w c vs bs is) (ht : Rd oneBl 1 w vt ts) (hnm : c.name.size ≤ 9223372036854775807) (hnms : ∀ x ∈ c.vars, x.name.size ≤ 9223372036854775807) :
    Calls Try.prog 6 #[.agg #[.string c.name, vs, bs, is], vt] w fun e w' => e = .returned (.bool true) ∧ Below w.heap.size w w' := by
  obtain ⟨A1, c1, rfl⟩ : ∃ A c', vs = .slice A c.vars.length c' := by obtain ⟨_, A, c', h, _⟩ := h.vars; exact ⟨A, c', h⟩
  obtain ⟨A2, c2, rfl⟩ : ∃ A c', bs = .slice A c.blocks.length c' := by obtain ⟨_, A, c', h, _⟩ := h.blocks; exact ⟨A, c', h⟩
  obtain ⟨A3, c3, rfl⟩ : ∃ A c', is = .slice A c.ins.length c' := by obtain ⟨_, A, c', h, _⟩ := h.ins; exact ⟨A, c', h⟩
  obtain ⟨At, ct, rfl⟩ : ∃ A c', vt = .slice A ts.length c' := by obtain ⟨_, A, c', h, _⟩ := ht; exact ⟨A, c', h⟩
  have BEL : Fact (Below w.heap.size w (boxed w c A1 A2 A3 c1 c2 c3)) := ⟨(one_block w _).1⟩
  have H := Fact.mk (h.below BEL.out)
  have HT := Fact.mk (ht.below BEL.out)
  have GR := Fact.mk (great_any c _ _ _ _ H.out hnm hnms)
  have HW := Fact.mk hw
  clear h ht hw hnm hnms
  go_enter Try.func6, Try.ntmps6
  go_wp2_with fail
  refine GR.out.mono ?_
  rintro e W0 ⟨g, rfl, hg, hb0⟩
  have BB := Fact.mk hb0
  clear hb0 GR
  obtain ⟨k0, k1, k2, k3⟩ : W0.cell? ⟨w.heap.size, 0, none⟩ = some (.string c.name) ∧ W0.cell? ⟨w.heap.size, 1, none⟩ = some (.slice A1 c.vars.length c1) ∧ W0.cell? ⟨w.heap.size, 2, none⟩ = some (.slice A2 c.blocks.length c2) ∧ W0.cell? ⟨w.heap.size, 3, none⟩ = some (.slice A3 c.ins.length c3) := code_cells BB.out
  cases g with
  | true =>
    clear hg
    go_wp2_with fail
    refine (awk14_any _).mono ?_
    rintro e W9 ⟨rfl, hb9⟩
    have B9 := Fact.mk (BB.out.trans (hb9.mono BB.out.size))
    clear hb9
    go_wp2
    go_ret
    exact ⟨rfl, BEL.out.trans (B9.out.mono BEL.out.size)⟩
  | false =>
    obtain ⟨-, -, g3, -⟩ := hg rfl
    have hn9 : (c.ins.length : Int) < 9223372036854775807 := by omega
    have SP := Fact.mk (spots_any c HW.out hn9 _ _ _ _ (H.out.below BB.out))
    clear hg
    go_wp2_with fail
    refine SP.out.mono ?_
    rintro e W1 ⟨v, rfl, hsp, hb1⟩
    have BB2 := Fact.mk (BB.out.trans (hb1.mono BB.out.size))
    have STP := Fact.mk (fun (W : World) (hW : Below (boxed w c A1 A2 A3 c1 c2 c3).heap.size (boxed w c A1 A2 A3 c1 c2 c3) W) => steps_any c HW.out hn9 _ _ _ W (H.out.below hW))
    clear hb1 SP BB k0 k1 k2 k3
    obtain ⟨k0, k1, k2, k3⟩ : W1.cell? ⟨w.heap.size, 0, none⟩ = some (.string c.name) ∧ W1.cell? ⟨w.heap.size, 1, none⟩ = some (.slice A1 c.vars.length c1) ∧ W1.cell? ⟨w.heap.size, 2, none⟩ = some (.slice A2 c.blocks.length c2) ∧ W1.cell? ⟨w.heap.size, 3, none⟩ = some (.slice A3 c.ins.length c3) := code_cells BB2.out
    obtain ⟨er, her⟩ : ∃ er, (spotsB c).2.2 = er := ⟨_, rfl⟩
    rw [her]
    by_cases h0 : er = 0
    · subst h0
      have OK := Fact.mk her
      obtain ⟨S, rfl, hpl⟩ : ∃ S, v = .slice (some ⟨S, 0, none⟩) (spotsB c).1.length (spotsB c).1.length ∧ Places W1 S (spotsB c).1 := by
        rcases hsp with ⟨_, h⟩ | ⟨S, _, h1, h2⟩
        · have := (spots_plc her).len
          rw [h] at this; simp at this
        · exact ⟨S, h1, h2⟩
      have hlen := (spots_plc her).len
      rw [hlen]
      have PL := Fact.mk hpl
      have hn1 : c.ins.length ≤ 2000 := (right_parts (spots_right her)).2.2.2.2.1
      have ST : Fact (JoinSt W1 W1 c 0 0) := ⟨⟨Below.refl _ _, Nat.zero_le _, join_start her, (spots_plc her).lo 0⟩⟩
      have HLEN := Fact.mk hlen
      clear hsp hpl hlen her
      go_wp2_with fail
      go_loopw [8, 9] (fun sk sm wr => ∃ k m : Nat, sk = .int .i64 k ∧ sm = .int .i64 m ∧ Fact (JoinSt W1 wr c k m)) (fun sk _ _ => c.ins.length - (intOf sk).toNat)
      case atStart => exact ⟨0, 0, rfl, rfl, ST⟩
      case round =>
        obtain ⟨k, m, rfl, rfl, hst⟩ := hrel
        have hkl := hst.out.hk
        obtain ⟨v, cr, cs, cm, hr, -, -, -, -⟩ := (PL.out.below hst.out.bel).at k (by rw [HLEN.out]; omega)
        obtain ⟨B, b0, rfl⟩ : ∃ B b0, v = .slice B (spotAt (spotsB c).1 k).stack.length b0 := by
          obtain ⟨_, A, a0, e, _⟩ := hr
          exact ⟨A, a0, e⟩
        have PC := Fact.mk (spots_plc OK.out)
        have sroom := PC.out.room k
        have shi := PC.out.hi k
        have sst := hst.out.steps
        rw [hst.out.reached] at cr
        have lS : S < wr.heap.size := (PL.out.below hst.out.bel).lt
        have BB3 := Fact.mk (BB2.out.trans (hst.out.bel.mono BB2.out.size))
        have lw : w.heap.size < wr.heap.size := by have := BB3.out.size; simp at this; omega
        have HS := Fact.mk hst.out
        obtain ⟨mm, hmm⟩ : ∃ mm, (spotAt (spotsB c).1 k).steps = mm := ⟨_, rfl⟩
        obtain ⟨sl, hsl⟩ : ∃ sl, (spotAt (spotsB c).1 k).stack.length = sl := ⟨_, rfl⟩
        rw [hmm] at cm shi sst
        rw [hsl] at cs sroom
        have MM := Fact.mk hmm
        have SL := Fact.mk hsl
        clear hst hr hmm hsl k0 k1 k2 k3
        obtain ⟨k0, k1, k2, k3⟩ : wr.cell? ⟨w.heap.size, 0, none⟩ = some (.string c.name) ∧ wr.cell? ⟨w.heap.size, 1, none⟩ = some (.slice A1 c.vars.length c1) ∧ wr.cell? ⟨w.heap.size, 2, none⟩ = some (.slice A2 c.blocks.length c2) ∧ wr.cell? ⟨w.heap.size, 3, none⟩ = some (.slice A3 c.ins.length c3) := code_cells BB3.out
        by_cases hkn : k < c.ins.length
        · have e1 : decide (mm < (m : Int)) = false := decide_eq_false (by omega)
          have e2 : decide (64 < (sl : Int)) = false := decide_eq_false (by omega)
          have hkn2 : (k : Int) < (c.ins.length : Int) := by omega
          obtain ⟨l3, A3', c3', e3, -, -, hci⟩ := (H.out.below BB3.out).ins
          cases e3
          obtain ⟨bi, oi, rfl, hci2⟩ := hci (by omega)
          have i0 := hci2 k hkn 0 (.int .u8 c.ins[k].op) rfl
          have i1 := hci2 k hkn 1 (.int .u8 c.ins[k].t) rfl
          have i2 := hci2 k hkn 2 (.int .i64 c.ins[k].a) rfl
          have i3 := hci2 k hkn 3 (.int .i64 c.ins[k].n) rfl
          obtain ⟨o, ho⟩ : ∃ o, c.ins[k].op = o := ⟨_, rfl⟩
          obtain ⟨it, hit⟩ : ∃ o, c.ins[k].t = o := ⟨_, rfl⟩
          obtain ⟨ia, hia⟩ : ∃ o, c.ins[k].a = o := ⟨_, rfl⟩
          obtain ⟨nn, hnn⟩ : ∃ o, c.ins[k].n = o := ⟨_, rfl⟩
          rw [ho] at i0
          rw [hit] at i1
          rw [hia] at i2
          rw [hnn] at i3
          replace i0 : wr.cell? ⟨bi, oi + k * 4, none⟩ = some (.int .u8 o) := i0
          replace i1 : wr.cell? ⟨bi, oi + k * 4 + 1, none⟩ = some (.int .u8 it) := i1
          replace i2 : wr.cell? ⟨bi, oi + k * 4 + 2, none⟩ = some (.int .i64 ia) := i2
          replace i3 : wr.cell? ⟨bi, oi + k * 4 + 3, none⟩ = some (.int .i64 nn) := i3
          have lbi := World.block_lt_of_cell? wr _ i0
          have HO := Fact.mk ho
          have HIA := Fact.mk hia
          have e7 : decide ((k : Int) + 1 ≤ (k : Int)) = false := decide_eq_false (by omega)
          have hk1 : k < c.ins.length + 1 := by omega
          have e9 : ¬ ((k : Int) + 1 ≤ (k : Int)) := by omega
          obtain ⟨sr, hsr⟩ : ∃ sr, stepsB c = sr := ⟨_, rfl⟩
          have co := join_cost OK.out (Nat.le_of_lt hkn)
          rw [hsr] at STP co
          have CO := Fact.mk co
          have NX := Fact.mk (fun hs => join_next OK.out hkn HS.out.reached hs)
          have JP := Fact.mk (fun hs => join_jump OK.out hkn HS.out.reached hs)
          clear hci hci2 hit hnn hsr co ho hia ST
          by_cases o22 : o = 22
          · subst o22
            have est := join_stop OK.out hkn HS.out.reached HO.out
            have e3 : sl = 0 := by rw [← SL.out, est]; rfl
            have e3b : decide ((sl : Int) = 0) = true := by rw [e3]; rfl
            have cost : (m : Int) + 1 ≤ sr := by
              have := CO.out
              unfold spotCost at this
              rw [HS.out.reached, MM.out] at this
              simp at this
              omega
            have COST := Fact.mk cost
            clear est cost CO
            go_wp2_with fail
            refine (STP.out _ ((BB3.out.alloc BB3.out.size _).alloc (Nat.le_trans BB3.out.size (by simp)) _)).mono ?_
            rintro e W2 ⟨rfl, hb2⟩
            have B2 := Fact.mk (((BB3.out.alloc BB3.out.size _).alloc (Nat.le_trans BB3.out.size (by simp)) _).trans (hb2.mono (Nat.le_trans BB3.out.size (by simp; omega))))
            have e4 : decide ((m : Int) + 1 ≤ sr) = true := decide_eq_true COST.out
            clear hb2 STP
            go_wp2_with fail
            refine (awk14_any _).mono ?_
            rintro e W9 ⟨rfl, hb9⟩
            have B9 := Fact.mk (B2.out.trans (hb9.mono B2.out.size))
            clear hb9
            go_wp2
            go_ret
            exact ⟨rfl, BEL.out.trans (B9.out.mono BEL.out.size)⟩
          have f22 : (o == 22) = false := beq_eq_false_iff_ne.2 o22
          clear CO STP
          by_cases o18 : o = 18
          · subst o18
            obtain ⟨j1, j2, j3, j4⟩ := JP.out (by simp [jumpsB, HO.out])
            rw [HIA.out] at j1 j2 j3 j4
            rw [MM.out] at j4
            obtain ⟨ja, rfl⟩ : ∃ n : Nat, ia = n := ⟨ia.toNat, by omega⟩
            rw [Int.toNat_natCast] at j3 j4
            have e8 : decide ((ja : Int) ≤ (k : Int)) = false := decide_eq_false (by omega)
            have j5 : ¬ ja ≤ k := by omega
            have j6 : decide (ja ≤ k) = false := decide_eq_false j5
            have J3 := Fact.mk j3
            have J4 := Fact.mk j4
            clear j3 j4 JP NX o22
            go_wp2_with fail
            go_roundw
            case rel => exact ⟨ja, m + 1, rfl, by go_num, ⟨⟨(HS.out.bel.alloc HS.out.bel.size _).alloc (Nat.le_trans HS.out.bel.size (by simp)) _, by omega, J3.out, by have := J4.out; omega⟩⟩⟩
            case measure => simp [intOf]; omega
          have f18 : (o == 18) = false := beq_eq_false_iff_ne.2 o18
          obtain ⟨j3, j4⟩ := NX.out (by simp [staysB, HO.out, o18, o22])
          rw [MM.out] at j4
          have J3 := Fact.mk j3
          have J4 := Fact.mk j4
          clear j3 j4 NX
          by_cases o19 : o = 19
          · subst o19
            clear f22 f18 o22 o18
            obtain ⟨qn, hq, hq7⟩ : ∃ qn : Nat, Int.tmod ((m : Int) + 1) 7 = qn ∧ qn < 7 := by
              refine ⟨(m + 1) % 7, ?_, by omega⟩
              rw [Int.tmod_eq_emod_of_nonneg (by omega)]
              omega
            by_cases hqt : qn < ts.length
            · obtain ⟨bt, ot, ct', hAt, hcb⟩ := (HT.out.below BB3.out).atBl qn hqt
              simp only [Value.slice.injEq, true_and] at hAt
              obtain ⟨rfl, rfl⟩ := hAt
              obtain ⟨tv, htv⟩ : ∃ tv, ts[qn] = tv := ⟨_, rfl⟩
              rw [htv] at hcb
              have TV := Fact.mk htv
              have lbt := World.block_lt_of_cell? wr _ hcb
              have g1 : decide ((qn : Int) < (ts.length : Int)) = true := decide_eq_true (by omega)
              clear htv
              cases tv with
              | true =>
                obtain ⟨j1, j2, j3, j4⟩ := JP.out (by simp [jumpsB, HO.out])
                rw [HIA.out] at j1 j2 j3 j4
                rw [MM.out] at j4
                obtain ⟨ja, rfl⟩ : ∃ n : Nat, ia = n := ⟨ia.toNat, by omega⟩
                rw [Int.toNat_natCast] at j3 j4
                have e8 : decide ((ja : Int) ≤ (k : Int)) = false := decide_eq_false (by omega)
                have j5 : ¬ ja ≤ k := by omega
                have j6 : decide (ja ≤ k) = false := decide_eq_false j5
                clear J3 J4
                have J3 := Fact.mk j3
                have J4 := Fact.mk j4
                clear j3 j4 JP
                go_wp2_with fail
                go_roundw
                case rel => exact ⟨ja, m + 1, rfl, by go_num, ⟨⟨(HS.out.bel.alloc HS.out.bel.size _).alloc (Nat.le_trans HS.out.bel.size (by simp)) _, by omega, J3.out, by have := J4.out; omega⟩⟩⟩
                case measure => simp [intOf]; omega
              | false =>
                clear JP
                go_wp2_with fail
                go_roundw
                case rel => exact ⟨k + 1, m + 1, by go_num, by go_num, ⟨⟨(HS.out.bel.alloc HS.out.bel.size _).alloc (Nat.le_trans HS.out.bel.size (by simp)) _, by omega, J3.out, by have := J4.out; omega⟩⟩⟩
                case measure => simp [intOf]; omega
            · have g1 : decide ((qn : Int) < (ts.length : Int)) = false := decide_eq_false (by omega)
              clear JP
              go_wp2_with fail
              go_roundw
              case rel => exact ⟨k + 1, m + 1, by go_num, by go_num, ⟨⟨(HS.out.bel.alloc HS.out.bel.size _).alloc (Nat.le_trans HS.out.bel.size (by simp)) _, by omega, J3.out, by have := J4.out; omega⟩⟩⟩
              case measure => simp [intOf]; omega
          have f19 : (o == 19) = false := beq_eq_false_iff_ne.2 o19
          clear JP
          go_wp2_with fail
          go_roundw
          case rel => exact ⟨k + 1, m + 1, by go_num, by go_num, ⟨⟨(HS.out.bel.alloc HS.out.bel.size _).alloc (Nat.le_trans HS.out.bel.size (by simp)) _, by omega, J3.out, by have := J4.out; omega⟩⟩⟩
          case measure => simp [intOf]; omega
        · obtain rfl : k = c.ins.length := by omega
          have est := final_end OK.out (HS.out.reached)
          have sl0 : sl = 0 := by rw [← SL.out, est]; rfl
          have e3 : decide ((sl : Int) = 0) = true := by rw [sl0]; rfl
          have co := join_cost OK.out (Nat.le_refl c.ins.length)
          have cost : (m : Int) ≤ stepsB c := by
            refine Int.le_trans ?_ co
            unfold spotCost
            rw [HS.out.reached, MM.out]
            simp
            omega
          obtain ⟨sr, hsr⟩ : ∃ sr, stepsB c = sr := ⟨_, rfl⟩
          rw [hsr] at cost
          have STQ := Fact.mk (STP.out _ BB3.out)
          rw [hsr] at STQ
          have COST := Fact.mk cost
          clear est co cost hsr STP
          go_wp2_with fail
          refine STQ.out.mono ?_
          rintro e W2 ⟨rfl, hb2⟩
          have B2 := Fact.mk (BB3.out.trans (hb2.mono BB3.out.size))
          have e4 : decide ((m : Int) ≤ sr) = true := decide_eq_true COST.out
          have e5 : decide (sr < (m : Int)) = false := decide_eq_false (by have := COST.out; omega)
          clear hb2 STQ
          go_wp2_with fail
          refine (awk14_any _).mono ?_
          rintro e W9 ⟨rfl, hb9⟩
          have B9 := Fact.mk (B2.out.trans (hb9.mono B2.out.size))
          clear hb9
          go_wp2
          go_ret
          exact ⟨rfl, BEL.out.trans (B9.out.mono BEL.out.size)⟩
    · have hnone : (spotsB c).1 = [] := spots_none (by rw [her]; exact h0)
      have hs0 : stepsB c = 0 := by unfold stepsB; rw [if_neg (by rw [her]; exact h0)]
      rw [hnone] at hsp
      have STQ := Fact.mk (STP.out _ BB2.out)
      rw [hs0] at STQ
      obtain ⟨VA, Vn, Vc, hvn, rfl⟩ : ∃ A n c', n = 0 ∧ v = .slice A n c' := by
        rcases hsp with ⟨h, _⟩ | ⟨S, _, h, _⟩
        · exact ⟨_, _, _, rfl, h⟩
        · exact ⟨_, _, _, rfl, h⟩
      have e3 : decide ((Vn : Int) = 0) = true := by rw [hvn]; rfl
      have e6 : (er != 0) = true := bne_iff_ne.2 h0
      clear hsp her hnone hs0 STP
      go_wp2_with fail
      refine STQ.out.mono ?_
      rintro e W2 ⟨rfl, hb2⟩
      have B2 := Fact.mk (BB2.out.trans (hb2.mono BB2.out.size))
      clear hb2 STQ
      go_wp2_with fail
      refine (awk14_any _).mono ?_
      rintro e W9 ⟨rfl, hb9⟩
      have B9 := Fact.mk (B2.out.trans (hb9.mono B2.out.size))
      clear hb9
      go_wp2
      go_ret
      exact ⟨rfl, BEL.out.trans (B9.out.mono BEL.out.size)⟩
end Go.Proofs.Ythiapebodpkamaa

