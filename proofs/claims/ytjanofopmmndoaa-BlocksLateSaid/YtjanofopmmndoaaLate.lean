/- BlocksLate: the walk. -/
import Derived.Test.YtjanofopmmndoaaPulse
import Derived.Deep.DeepCutAuto
namespace Go.Proofs.Ytjanofopmmndoaa
open Go.RowKit
inductive OffSt (p now : Int) : Bool → Bool → Int → Bool → Int → Bool → Prop
  | on : OffSt p now true true (-1) false 0 true
  | never : OffSt p now false false (-1) false 0 false
  | run {fell : Int} (h0 : 0 ≤ fell) (h1 : fell ≤ now) (h2 : now - fell < p) : OffSt p now false true fell true fell true
  | done {fell : Int} (h0 : 0 ≤ fell) (h1 : fell ≤ now) (h2 : p ≤ now - fell) : OffSt p now false true fell false 0 false
theorem outs_step {b : GBlock} {l : List Int} {t er k : Int} {was going : Bool} {frm et : Int} {q : Bool} (_ : runB b l t = (tmB k was going frm et q, er)) (h : TmOk k going frm et) : outsB (tmB k was going frm et q) = [truthI q, min et 4294967295] := outs_tm h
structure LateSt (w wr : World) (U D : Nat) (p now rose fell : Int) (was ever : Bool) (k : Nat) : Prop where
  on : ∃ f e q, BlkAt wr U (tmB 1 was was f e q) ∧ 0 ≤ e ∧ e ≤ 4294967295 ∧ (was = true → f = rose ∧ 0 ≤ rose ∧ rose ≤ now) ∧ (was = false → f = 0 ∧ rose = -1)
  off : ∃ g f e q, BlkAt wr D (tmB 2 was g f e q) ∧ 0 ≤ e ∧ e ≤ 4294967295 ∧ OffSt p now was ever fell g f q
  bel : Below w.heap.size w wr
  lo : w.heap.size ≤ U
  ne : U < D
  n1 : 3 ≤ now
  n2 : now ≤ 3 + 65535 * (k : Int)
set_option maxRecDepth 100000 in
set_option maxHeartbeats 40000000 in
theorem late_any (awk : ∀ w, Calls Try.prog 20 #[] w fun e w' => e = .returned (.bool true) ∧ Below w.heap.size w w') (xs : List Bool) (ls : List Int) (hls : ∀ x ∈ ls, 0 ≤ x ∧ x ≤ 65535) (vs vl : Value) (p : Int) (p1 : 0 ≤ p) (p2 : p ≤ 4294967295) (w : World) (hr : Rd oneBool 1 w vs xs) (hl : Rd oneU16 1 w vl ls) : Calls Try.prog 4 #[vs, vl, .int .u32 p] w fun e w' => e = .returned (.bool true) ∧ Below w.heap.size w w' := by
  obtain ⟨A, c, rfl, l0⟩ : ∃ A c, vs = .slice A xs.length c ∧ xs.length ≤ 9223372036854775807 := by
    obtain ⟨h0, A, c, e, _⟩ := hr
    exact ⟨A, c, e, h0⟩
  obtain ⟨A2, c2, rfl, l2⟩ : ∃ A c, vl = .slice A ls.length c ∧ ls.length ≤ 9223372036854775807 := by
    obtain ⟨h0, A, c, e, _⟩ := hl
    exact ⟨A, c, e, h0⟩
  have HR := Fact.mk hr
  have HL := Fact.mk hl
  have HLS := Fact.mk hls
  clear hr hl hls
  have n1 := new_any 1 (by decide) (by decide)
  have n2 := new_any 2 (by decide) (by decide)
  unfold vBlk newB at n1 n2
  go_enter Try.func4, Try.ntmps4
  go_wp2_with fail
  refine (n1 _).mono ?_
  rintro e W1 ⟨rfl, hb1⟩
  have B1 := Fact.mk hb1
  clear hb1
  go_wp2_with fail
  refine (n2 _).mono ?_
  rintro e W2 ⟨rfl, hb2⟩
  have B2 := Fact.mk hb2
  clear hb2 n1 n2
  have ST : Fact (LateSt w (W2.alloc (.cells #[.int .u8 2, .bool false, .bool false, .bool false, .bool false, .int .i64 0, .int .i64 0, .int .i64 0, .bool false, .bool false] 25)) W1.heap.size W2.heap.size p 3 (-1) (-1) false false 0) := by
    have h1 := one_block W1 (.cells #[.int .u8 1, .bool false, .bool false, .bool false, .bool false, .int .i64 0, .int .i64 0, .int .i64 0, .bool false, .bool false] 25)
    have h2 := one_block W2 (.cells #[.int .u8 2, .bool false, .bool false, .bool false, .bool false, .int .i64 0, .int .i64 0, .int .i64 0, .bool false, .bool false] 25)
    have hs : W1.heap.size + 1 ≤ W2.heap.size := by have := B2.out.size; simpa using this
    have hu : BlkAt (W1.alloc (.cells #[.int .u8 1, .bool false, .bool false, .bool false, .bool false, .int .i64 0, .int .i64 0, .int .i64 0, .bool false, .bool false] 25)) W1.heap.size (tmB 1 false false 0 0 false) := h1.2.1
    exact ⟨⟨0, 0, false, (hu.below B2.out).below h2.1, by omega, by omega, (fun h => by cases h), (fun _ => ⟨rfl, rfl⟩)⟩, ⟨false, 0, 0, false, h2.2.1, by omega, by omega, .never⟩, (B1.out.trans ((h1.1.trans (B2.out.mono h1.1.size)).mono B1.out.size)).trans (h2.1.mono (by have := B1.out.size; omega)), B1.out.size, by omega, by omega, by omega⟩
  clear B1 B2
  go_wp2_with fail
  go_loopw [11, 12, 13, 14, 15, 16] (fun sn sr sf sw se i wr => ∃ (k : Nat) (now rose fell : Int) (was ever : Bool), k ≤ xs.length ∧ k ≤ 60 ∧ i = .int .i64 k ∧ sn = .int .i64 now ∧ sr = .int .i64 rose ∧ sf = .int .i64 fell ∧ sw = .bool was ∧ se = .bool ever ∧ Fact (LateSt w wr W1.heap.size W2.heap.size p now rose fell was ever k)) (fun _ _ _ _ _ i _ => 60 - (intOf i).toNat)
  case atStart => exact ⟨0, 3, -1, -1, false, false, Nat.zero_le _, Nat.zero_le _, rfl, rfl, rfl, rfl, rfl, rfl, ST⟩
  case round =>
    obtain ⟨k, now, rose, fell, was, ever, hk, hk6, rfl, rfl, rfl, rfl, rfl, rfl, hst⟩ := hrel
    by_cases hlt : k < xs.length
    · by_cases h60 : k < 60
      · obtain ⟨bi, oi, ci', e, ci⟩ := (HR.out.below hst.out.bel).atBool k hlt
        cases e
        obtain ⟨x, hx⟩ : ∃ x, xs[k] = x := ⟨_, rfl⟩
        have CI : Fact (w.cell? ⟨bi, oi + k, none⟩ = some (.bool x)) := ⟨by obtain ⟨_, _, _, e2, h2⟩ := HR.out.atBool k hlt; cases e2; rw [hx] at h2; exact h2⟩
        rw [hx] at ci
        have i1 : (k : Int) < (xs.length : Int) := by omega
        have i2 : (k : Int) < 60 := by omega
        have w1 := hst.out.n1
        have w2 := hst.out.n2
        have lV : w.heap.size ≤ W1.heap.size := hst.out.lo
        have HNE := Fact.mk hst.out.ne
        obtain ⟨f1, e1, q1, hu, e11, e12, on1, on2⟩ := hst.out.on
        obtain ⟨g, f, e, q, hd, e21, e22, hoff⟩ := hst.out.off
        have HB := Fact.mk hst.out.bel
        have BU := Fact.mk hu
        have BD := Fact.mk hd
        clear hx hst hu hd
        go_upto_if 43 with (fail)
        go_cut [11] (fun s11 wx => wx = wr ∧ ∃ nw : Int, s11 = .int .i64 nw ∧ now ≤ nw ∧ nw ≤ now + 65535)
        case first =>
          by_cases hll : k < ls.length
          · obtain ⟨bl, ol, cl', el, cl⟩ := (HL.out.below HB.out).at16 k hll
            cases el
            obtain ⟨L, hL⟩ : ∃ L, ls[k] = L := ⟨_, rfl⟩
            have hL0 := HLS.out _ (List.getElem_mem hll)
            rw [hL] at cl hL0
            obtain ⟨L1, L2⟩ := hL0
            have i3 : (k : Int) < (ls.length : Int) := by omega
            clear hL
            go_wp2_with fail
            go_meet
            exact ⟨rfl, now + L, rfl, by omega, by omega⟩
          · have i3 : ¬ (k : Int) < (ls.length : Int) := by omega
            go_wp2_with fail
            go_meet
            exact ⟨rfl, now, rfl, by omega, by omega⟩
        case rest =>
          obtain ⟨rfl, nw, rfl, w3, w4⟩ := hcut
          cases hoff with
          | on =>
            cases x with
            | true =>
              obtain ⟨rfl, o1, o2⟩ := on1 rfl
              clear on1 on2
              by_cases ho : p ≤ nw - f1
              · have hr0 : decide (f1 < 0) = false := decide_eq_false (by omega)
                have hw : decide (p ≤ nw - f1) = true := decide_eq_true (by omega)
                have hq : decide (p ≤ max (nw - (if true = true then f1 else nw)) 0) = true := decide_eq_true (by simp only [if_true]; omega)
                have hrun1 := run_step (x := true) ⟨.inl rfl, by omega, by omega, by omega, by omega, .inl rfl⟩ p1 p2 (by omega : 0 ≤ nw) (by omega : nw ≤ 1125899906842624) ((on_on true true q1 _ f1 e1 p nw).trans (by rw [hq]))
                have jr1 := lrun_new BU.out hrun1 (outs_tm ⟨.inl rfl, by omega, by omega, by omega, by omega, .inl rfl⟩) (by simp)
                have hrun2 := run_step (x := true) ⟨.inr (.inl rfl), by omega, by omega, by omega, by omega, .inr rfl⟩ p1 p2 (by omega : 0 ≤ nw) (by omega : nw ≤ 1125899906842624) (off_on true false true _ 0 e p nw)
                have ho2 := outs_step hrun2 ⟨.inr (.inl rfl), by omega, by omega, by omega, by omega, .inr rfl⟩
                have JR1 := Fact.mk jr1
                have RUN2 := Fact.mk hrun2
                have OUT2 := Fact.mk ho2
                clear hrun1 jr1 hrun2 ho2
                go_wp2_with fail
                refine JR1.out.mono ?_
                rintro e W3 ⟨v1, rfl, rd1, k3, g3, fr3⟩
                have d3 := BD.out.other g3 (Nat.ne_of_gt HNE.out)
                have D3 := Fact.mk d3
                have K3 := Fact.mk k3
                have RD1 := Fact.mk rd1
                have B3 := Fact.mk (HB.out.trans (grown_Below g3 HB.out.size lV))
                have FR3 := Fact.mk (show v1.ownBlock ≠ some W2.heap.size from LrunPost.fresh_ne fr3 BD.out)
                clear d3 k3 rd1 g3 fr3 JR1
                go_wp2_with fail
                refine (lrun_new D3.out RUN2.out OUT2.out (by simp)).mono ?_
                rintro e W4 ⟨v2, rfl, rd2, k4, g4, -⟩
                have u4 := K3.out.other g4 (Nat.ne_of_lt HNE.out)
                have rd1 := RD1.out.grown g4 FR3.out
                obtain ⟨y0, y1, y2, rfl, yc0, yc1⟩ := rd2.two64
                obtain ⟨z0, z1, z2, rfl, zc0, zc1⟩ := rd1.two64
                have b4 : Below w.heap.size w W4 := B3.out.trans (grown_Below g4 B3.out.size (Nat.le_trans lV (Nat.le_of_lt HNE.out)))
                have ST4 : Fact (LateSt w W4 W1.heap.size W2.heap.size p nw f1 (-1) true true (k + 1)) := ⟨⟨_, _, _, u4, by omega, by omega, (fun _ => ⟨rfl, by omega, by omega⟩), (fun h => by cases h)⟩, ⟨_, _, _, _, k4, by omega, by omega, .on⟩, b4, lV, HNE.out, by omega, by omega⟩
                have hc4 : W4.cell? ⟨bi, oi + k, none⟩ = some (.bool true) := cell_below b4 _ _ CI.out
                rw [show truthI true = 1 from rfl] at zc0
                rw [show truthI true = 1 from rfl] at yc0
                clear g4 k4 rd2 rd1 b4 u4 ci zc1 yc1
                go_wp2_with fail
                go_roundw
                case rel => exact ⟨k + 1, nw, f1, (-1), true, true, by omega, by omega, by go_num, rfl, rfl, rfl, rfl, rfl, ST4⟩
                case measure => simp [intOf]; omega
              · have hr0 : decide (f1 < 0) = false := decide_eq_false (by omega)
                have hw : decide (p ≤ nw - f1) = false := decide_eq_false (by omega)
                have hq : decide (p ≤ max (nw - (if true = true then f1 else nw)) 0) = false := decide_eq_false (by simp only [if_true]; omega)
                have hrun1 := run_step (x := true) ⟨.inl rfl, by omega, by omega, by omega, by omega, .inl rfl⟩ p1 p2 (by omega : 0 ≤ nw) (by omega : nw ≤ 1125899906842624) ((on_on true true q1 _ f1 e1 p nw).trans (by rw [hq]))
                have jr1 := lrun_new BU.out hrun1 (outs_tm ⟨.inl rfl, by omega, by omega, by omega, by omega, .inl rfl⟩) (by simp)
                have hrun2 := run_step (x := true) ⟨.inr (.inl rfl), by omega, by omega, by omega, by omega, .inr rfl⟩ p1 p2 (by omega : 0 ≤ nw) (by omega : nw ≤ 1125899906842624) (off_on true false true _ 0 e p nw)
                have ho2 := outs_step hrun2 ⟨.inr (.inl rfl), by omega, by omega, by omega, by omega, .inr rfl⟩
                have JR1 := Fact.mk jr1
                have RUN2 := Fact.mk hrun2
                have OUT2 := Fact.mk ho2
                clear hrun1 jr1 hrun2 ho2
                go_wp2_with fail
                refine JR1.out.mono ?_
                rintro e W3 ⟨v1, rfl, rd1, k3, g3, fr3⟩
                have d3 := BD.out.other g3 (Nat.ne_of_gt HNE.out)
                have D3 := Fact.mk d3
                have K3 := Fact.mk k3
                have RD1 := Fact.mk rd1
                have B3 := Fact.mk (HB.out.trans (grown_Below g3 HB.out.size lV))
                have FR3 := Fact.mk (show v1.ownBlock ≠ some W2.heap.size from LrunPost.fresh_ne fr3 BD.out)
                clear d3 k3 rd1 g3 fr3 JR1
                go_wp2_with fail
                refine (lrun_new D3.out RUN2.out OUT2.out (by simp)).mono ?_
                rintro e W4 ⟨v2, rfl, rd2, k4, g4, -⟩
                have u4 := K3.out.other g4 (Nat.ne_of_lt HNE.out)
                have rd1 := RD1.out.grown g4 FR3.out
                obtain ⟨y0, y1, y2, rfl, yc0, yc1⟩ := rd2.two64
                obtain ⟨z0, z1, z2, rfl, zc0, zc1⟩ := rd1.two64
                have b4 : Below w.heap.size w W4 := B3.out.trans (grown_Below g4 B3.out.size (Nat.le_trans lV (Nat.le_of_lt HNE.out)))
                have ST4 : Fact (LateSt w W4 W1.heap.size W2.heap.size p nw f1 (-1) true true (k + 1)) := ⟨⟨_, _, _, u4, by omega, by omega, (fun _ => ⟨rfl, by omega, by omega⟩), (fun h => by cases h)⟩, ⟨_, _, _, _, k4, by omega, by omega, .on⟩, b4, lV, HNE.out, by omega, by omega⟩
                have hc4 : W4.cell? ⟨bi, oi + k, none⟩ = some (.bool true) := cell_below b4 _ _ CI.out
                rw [show truthI false = 0 from rfl] at zc0
                rw [show truthI true = 1 from rfl] at yc0
                clear g4 k4 rd2 rd1 b4 u4 ci zc1 yc1
                go_wp2_with fail
                go_roundw
                case rel => exact ⟨k + 1, nw, f1, (-1), true, true, by omega, by omega, by go_num, rfl, rfl, rfl, rfl, rfl, ST4⟩
                case measure => simp [intOf]; omega
            | false =>
              obtain ⟨rfl, o1, o2⟩ := on1 rfl
              clear on1 on2
              by_cases ho : p ≤ max (nw - (if (false : Bool) = true then (0 : Int) else nw)) 0
              · have ho2 := ho
                simp only [Bool.false_eq_true, if_false] at ho2
                have hw : decide (0 < p) = false := decide_eq_false (by omega)
                have hrun1 := run_step (x := false) ⟨.inl rfl, by omega, by omega, by omega, by omega, .inl rfl⟩ p1 p2 (by omega : 0 ≤ nw) (by omega : nw ≤ 1125899906842624) (on_off true true q1 _ f1 e1 p nw)
                have jr1 := lrun_new BU.out hrun1 (outs_tm ⟨.inl rfl, by omega, by omega, by omega, by omega, .inr rfl⟩) (by simp)
                have hrun2 := run_step (x := false) ⟨.inr (.inl rfl), by omega, by omega, by omega, by omega, .inr rfl⟩ p1 p2 (by omega : 0 ≤ nw) (by omega : nw ≤ 1125899906842624) (off_over true false _ 0 e ho)
                have ho2 := outs_step hrun2 ⟨.inr (.inl rfl), by omega, by omega, by omega, by omega, .inr rfl⟩
                have JR1 := Fact.mk jr1
                have RUN2 := Fact.mk hrun2
                have OUT2 := Fact.mk ho2
                clear hrun1 jr1 hrun2 ho2
                go_wp2_with fail
                refine JR1.out.mono ?_
                rintro e W3 ⟨v1, rfl, rd1, k3, g3, fr3⟩
                have d3 := BD.out.other g3 (Nat.ne_of_gt HNE.out)
                have D3 := Fact.mk d3
                have K3 := Fact.mk k3
                have RD1 := Fact.mk rd1
                have B3 := Fact.mk (HB.out.trans (grown_Below g3 HB.out.size lV))
                have FR3 := Fact.mk (show v1.ownBlock ≠ some W2.heap.size from LrunPost.fresh_ne fr3 BD.out)
                clear d3 k3 rd1 g3 fr3 JR1
                go_wp2_with fail
                refine (lrun_new D3.out RUN2.out OUT2.out (by simp)).mono ?_
                rintro e W4 ⟨v2, rfl, rd2, k4, g4, -⟩
                have u4 := K3.out.other g4 (Nat.ne_of_lt HNE.out)
                have rd1 := RD1.out.grown g4 FR3.out
                obtain ⟨y0, y1, y2, rfl, yc0, yc1⟩ := rd2.two64
                obtain ⟨z0, z1, z2, rfl, zc0, zc1⟩ := rd1.two64
                have b4 : Below w.heap.size w W4 := B3.out.trans (grown_Below g4 B3.out.size (Nat.le_trans lV (Nat.le_of_lt HNE.out)))
                have ST4 : Fact (LateSt w W4 W1.heap.size W2.heap.size p nw (-1) nw false true (k + 1)) := ⟨⟨_, _, _, u4, by omega, by omega, (fun h => by cases h), (fun _ => ⟨rfl, rfl⟩)⟩, ⟨_, _, _, _, k4, by omega, by omega, .done (by omega) (by omega) (by omega)⟩, b4, lV, HNE.out, by omega, by omega⟩
                have hc4 : W4.cell? ⟨bi, oi + k, none⟩ = some (.bool false) := cell_below b4 _ _ CI.out
                rw [show truthI false = 0 from rfl] at zc0
                rw [show truthI false = 0 from rfl] at yc0
                clear g4 k4 rd2 rd1 b4 u4 ci zc1 yc1
                go_wp2_with fail
                go_roundw
                case rel => exact ⟨k + 1, nw, (-1), nw, false, true, by omega, by omega, by go_num, rfl, rfl, rfl, rfl, rfl, ST4⟩
                case measure => simp [intOf]; omega
              · have ho2 := ho
                simp only [Bool.false_eq_true, if_false] at ho2
                have hw : decide (0 < p) = true := decide_eq_true (by omega)
                have hrun1 := run_step (x := false) ⟨.inl rfl, by omega, by omega, by omega, by omega, .inl rfl⟩ p1 p2 (by omega : 0 ≤ nw) (by omega : nw ≤ 1125899906842624) (on_off true true q1 _ f1 e1 p nw)
                have jr1 := lrun_new BU.out hrun1 (outs_tm ⟨.inl rfl, by omega, by omega, by omega, by omega, .inr rfl⟩) (by simp)
                have hrun2 := run_step (x := false) ⟨.inr (.inl rfl), by omega, by omega, by omega, by omega, .inr rfl⟩ p1 p2 (by omega : 0 ≤ nw) (by omega : nw ≤ 1125899906842624) (off_goes true false _ 0 e ho)
                have ho2 := outs_step hrun2 ⟨.inr (.inl rfl), by omega, by omega, by omega, by omega, .inl rfl⟩
                have JR1 := Fact.mk jr1
                have RUN2 := Fact.mk hrun2
                have OUT2 := Fact.mk ho2
                clear hrun1 jr1 hrun2 ho2
                go_wp2_with fail
                refine JR1.out.mono ?_
                rintro e W3 ⟨v1, rfl, rd1, k3, g3, fr3⟩
                have d3 := BD.out.other g3 (Nat.ne_of_gt HNE.out)
                have D3 := Fact.mk d3
                have K3 := Fact.mk k3
                have RD1 := Fact.mk rd1
                have B3 := Fact.mk (HB.out.trans (grown_Below g3 HB.out.size lV))
                have FR3 := Fact.mk (show v1.ownBlock ≠ some W2.heap.size from LrunPost.fresh_ne fr3 BD.out)
                clear d3 k3 rd1 g3 fr3 JR1
                go_wp2_with fail
                refine (lrun_new D3.out RUN2.out OUT2.out (by simp)).mono ?_
                rintro e W4 ⟨v2, rfl, rd2, k4, g4, -⟩
                have u4 := K3.out.other g4 (Nat.ne_of_lt HNE.out)
                have rd1 := RD1.out.grown g4 FR3.out
                obtain ⟨y0, y1, y2, rfl, yc0, yc1⟩ := rd2.two64
                obtain ⟨z0, z1, z2, rfl, zc0, zc1⟩ := rd1.two64
                have b4 : Below w.heap.size w W4 := B3.out.trans (grown_Below g4 B3.out.size (Nat.le_trans lV (Nat.le_of_lt HNE.out)))
                have ST4 : Fact (LateSt w W4 W1.heap.size W2.heap.size p nw (-1) nw false true (k + 1)) := ⟨⟨_, _, _, u4, by omega, by omega, (fun h => by cases h), (fun _ => ⟨rfl, rfl⟩)⟩, ⟨_, _, _, _, k4, by omega, by omega, .run (by omega) (by omega) (by omega)⟩, b4, lV, HNE.out, by omega, by omega⟩
                have hc4 : W4.cell? ⟨bi, oi + k, none⟩ = some (.bool false) := cell_below b4 _ _ CI.out
                rw [show truthI false = 0 from rfl] at zc0
                rw [show truthI true = 1 from rfl] at yc0
                clear g4 k4 rd2 rd1 b4 u4 ci zc1 yc1
                go_wp2_with fail
                go_roundw
                case rel => exact ⟨k + 1, nw, (-1), nw, false, true, by omega, by omega, by go_num, rfl, rfl, rfl, rfl, rfl, ST4⟩
                case measure => simp [intOf]; omega
          | never =>
            cases x with
            | true =>
              obtain ⟨rfl, rfl⟩ := on2 rfl
              clear on1 on2
              by_cases ho : p ≤ 0
              · have hw : decide (p ≤ 0) = true := decide_eq_true (by omega)
                have hq : decide (p ≤ max (nw - (if false = true then (0 : Int) else nw)) 0) = true := decide_eq_true (by simp only [Bool.false_eq_true, if_false]; omega)
                have hrun1 := run_step (x := true) ⟨.inl rfl, by omega, by omega, by omega, by omega, .inr rfl⟩ p1 p2 (by omega : 0 ≤ nw) (by omega : nw ≤ 1125899906842624) ((on_on false false q1 _ 0 e1 p nw).trans (by rw [hq]))
                have jr1 := lrun_new BU.out hrun1 (outs_tm ⟨.inl rfl, by omega, by omega, by omega, by omega, .inl rfl⟩) (by simp)
                have hrun2 := run_step (x := true) ⟨.inr (.inl rfl), by omega, by omega, by omega, by omega, .inr rfl⟩ p1 p2 (by omega : 0 ≤ nw) (by omega : nw ≤ 1125899906842624) (off_on false false false _ 0 e p nw)
                have ho2 := outs_step hrun2 ⟨.inr (.inl rfl), by omega, by omega, by omega, by omega, .inr rfl⟩
                have JR1 := Fact.mk jr1
                have RUN2 := Fact.mk hrun2
                have OUT2 := Fact.mk ho2
                clear hrun1 jr1 hrun2 ho2
                go_wp2_with fail
                refine JR1.out.mono ?_
                rintro e W3 ⟨v1, rfl, rd1, k3, g3, fr3⟩
                have d3 := BD.out.other g3 (Nat.ne_of_gt HNE.out)
                have D3 := Fact.mk d3
                have K3 := Fact.mk k3
                have RD1 := Fact.mk rd1
                have B3 := Fact.mk (HB.out.trans (grown_Below g3 HB.out.size lV))
                have FR3 := Fact.mk (show v1.ownBlock ≠ some W2.heap.size from LrunPost.fresh_ne fr3 BD.out)
                clear d3 k3 rd1 g3 fr3 JR1
                go_wp2_with fail
                refine (lrun_new D3.out RUN2.out OUT2.out (by simp)).mono ?_
                rintro e W4 ⟨v2, rfl, rd2, k4, g4, -⟩
                have u4 := K3.out.other g4 (Nat.ne_of_lt HNE.out)
                have rd1 := RD1.out.grown g4 FR3.out
                obtain ⟨y0, y1, y2, rfl, yc0, yc1⟩ := rd2.two64
                obtain ⟨z0, z1, z2, rfl, zc0, zc1⟩ := rd1.two64
                have b4 : Below w.heap.size w W4 := B3.out.trans (grown_Below g4 B3.out.size (Nat.le_trans lV (Nat.le_of_lt HNE.out)))
                have ST4 : Fact (LateSt w W4 W1.heap.size W2.heap.size p nw nw (-1) true true (k + 1)) := ⟨⟨_, _, _, u4, by omega, by omega, (fun _ => ⟨rfl, by omega, by omega⟩), (fun h => by cases h)⟩, ⟨_, _, _, _, k4, by omega, by omega, .on⟩, b4, lV, HNE.out, by omega, by omega⟩
                have hc4 : W4.cell? ⟨bi, oi + k, none⟩ = some (.bool true) := cell_below b4 _ _ CI.out
                rw [show truthI true = 1 from rfl] at zc0
                rw [show truthI true = 1 from rfl] at yc0
                clear g4 k4 rd2 rd1 b4 u4 ci zc1 yc1
                go_wp2_with fail
                go_roundw
                case rel => exact ⟨k + 1, nw, nw, (-1), true, true, by omega, by omega, by go_num, rfl, rfl, rfl, rfl, rfl, ST4⟩
                case measure => simp [intOf]; omega
              · have hw : decide (p ≤ 0) = false := decide_eq_false (by omega)
                have hq : decide (p ≤ max (nw - (if false = true then (0 : Int) else nw)) 0) = false := decide_eq_false (by simp only [Bool.false_eq_true, if_false]; omega)
                have hrun1 := run_step (x := true) ⟨.inl rfl, by omega, by omega, by omega, by omega, .inr rfl⟩ p1 p2 (by omega : 0 ≤ nw) (by omega : nw ≤ 1125899906842624) ((on_on false false q1 _ 0 e1 p nw).trans (by rw [hq]))
                have jr1 := lrun_new BU.out hrun1 (outs_tm ⟨.inl rfl, by omega, by omega, by omega, by omega, .inl rfl⟩) (by simp)
                have hrun2 := run_step (x := true) ⟨.inr (.inl rfl), by omega, by omega, by omega, by omega, .inr rfl⟩ p1 p2 (by omega : 0 ≤ nw) (by omega : nw ≤ 1125899906842624) (off_on false false false _ 0 e p nw)
                have ho2 := outs_step hrun2 ⟨.inr (.inl rfl), by omega, by omega, by omega, by omega, .inr rfl⟩
                have JR1 := Fact.mk jr1
                have RUN2 := Fact.mk hrun2
                have OUT2 := Fact.mk ho2
                clear hrun1 jr1 hrun2 ho2
                go_wp2_with fail
                refine JR1.out.mono ?_
                rintro e W3 ⟨v1, rfl, rd1, k3, g3, fr3⟩
                have d3 := BD.out.other g3 (Nat.ne_of_gt HNE.out)
                have D3 := Fact.mk d3
                have K3 := Fact.mk k3
                have RD1 := Fact.mk rd1
                have B3 := Fact.mk (HB.out.trans (grown_Below g3 HB.out.size lV))
                have FR3 := Fact.mk (show v1.ownBlock ≠ some W2.heap.size from LrunPost.fresh_ne fr3 BD.out)
                clear d3 k3 rd1 g3 fr3 JR1
                go_wp2_with fail
                refine (lrun_new D3.out RUN2.out OUT2.out (by simp)).mono ?_
                rintro e W4 ⟨v2, rfl, rd2, k4, g4, -⟩
                have u4 := K3.out.other g4 (Nat.ne_of_lt HNE.out)
                have rd1 := RD1.out.grown g4 FR3.out
                obtain ⟨y0, y1, y2, rfl, yc0, yc1⟩ := rd2.two64
                obtain ⟨z0, z1, z2, rfl, zc0, zc1⟩ := rd1.two64
                have b4 : Below w.heap.size w W4 := B3.out.trans (grown_Below g4 B3.out.size (Nat.le_trans lV (Nat.le_of_lt HNE.out)))
                have ST4 : Fact (LateSt w W4 W1.heap.size W2.heap.size p nw nw (-1) true true (k + 1)) := ⟨⟨_, _, _, u4, by omega, by omega, (fun _ => ⟨rfl, by omega, by omega⟩), (fun h => by cases h)⟩, ⟨_, _, _, _, k4, by omega, by omega, .on⟩, b4, lV, HNE.out, by omega, by omega⟩
                have hc4 : W4.cell? ⟨bi, oi + k, none⟩ = some (.bool true) := cell_below b4 _ _ CI.out
                rw [show truthI false = 0 from rfl] at zc0
                rw [show truthI true = 1 from rfl] at yc0
                clear g4 k4 rd2 rd1 b4 u4 ci zc1 yc1
                go_wp2_with fail
                go_roundw
                case rel => exact ⟨k + 1, nw, nw, (-1), true, true, by omega, by omega, by go_num, rfl, rfl, rfl, rfl, rfl, ST4⟩
                case measure => simp [intOf]; omega
            | false =>
              obtain ⟨rfl, rfl⟩ := on2 rfl
              clear on1 on2
              have hrun1 := run_step (x := false) ⟨.inl rfl, by omega, by omega, by omega, by omega, .inr rfl⟩ p1 p2 (by omega : 0 ≤ nw) (by omega : nw ≤ 1125899906842624) (on_off false false q1 _ 0 e1 p nw)
              have jr1 := lrun_new BU.out hrun1 (outs_tm ⟨.inl rfl, by omega, by omega, by omega, by omega, .inr rfl⟩) (by simp)
              have hrun2 := run_step (x := false) ⟨.inr (.inl rfl), by omega, by omega, by omega, by omega, .inr rfl⟩ p1 p2 (by omega : 0 ≤ nw) (by omega : nw ≤ 1125899906842624) (off_idle false false _ 0 e p nw)
              have ho2 := outs_step hrun2 ⟨.inr (.inl rfl), by omega, by omega, by omega, by omega, .inr rfl⟩
              have JR1 := Fact.mk jr1
              have RUN2 := Fact.mk hrun2
              have OUT2 := Fact.mk ho2
              clear hrun1 jr1 hrun2 ho2
              go_wp2_with fail
              refine JR1.out.mono ?_
              rintro e W3 ⟨v1, rfl, rd1, k3, g3, fr3⟩
              have d3 := BD.out.other g3 (Nat.ne_of_gt HNE.out)
              have D3 := Fact.mk d3
              have K3 := Fact.mk k3
              have RD1 := Fact.mk rd1
              have B3 := Fact.mk (HB.out.trans (grown_Below g3 HB.out.size lV))
              have FR3 := Fact.mk (show v1.ownBlock ≠ some W2.heap.size from LrunPost.fresh_ne fr3 BD.out)
              clear d3 k3 rd1 g3 fr3 JR1
              go_wp2_with fail
              refine (lrun_new D3.out RUN2.out OUT2.out (by simp)).mono ?_
              rintro e W4 ⟨v2, rfl, rd2, k4, g4, -⟩
              have u4 := K3.out.other g4 (Nat.ne_of_lt HNE.out)
              have rd1 := RD1.out.grown g4 FR3.out
              obtain ⟨y0, y1, y2, rfl, yc0, yc1⟩ := rd2.two64
              obtain ⟨z0, z1, z2, rfl, zc0, zc1⟩ := rd1.two64
              have b4 : Below w.heap.size w W4 := B3.out.trans (grown_Below g4 B3.out.size (Nat.le_trans lV (Nat.le_of_lt HNE.out)))
              have ST4 : Fact (LateSt w W4 W1.heap.size W2.heap.size p nw (-1) (-1) false false (k + 1)) := ⟨⟨_, _, _, u4, by omega, by omega, (fun h => by cases h), (fun _ => ⟨rfl, rfl⟩)⟩, ⟨_, _, _, _, k4, by omega, by omega, .never⟩, b4, lV, HNE.out, by omega, by omega⟩
              have hc4 : W4.cell? ⟨bi, oi + k, none⟩ = some (.bool false) := cell_below b4 _ _ CI.out
              rw [show truthI false = 0 from rfl] at zc0
              rw [show truthI false = 0 from rfl] at yc0
              clear g4 k4 rd2 rd1 b4 u4 ci zc1 yc1
              go_wp2_with fail
              go_roundw
              case rel => exact ⟨k + 1, nw, (-1), (-1), false, false, by omega, by omega, by go_num, rfl, rfl, rfl, rfl, rfl, ST4⟩
              case measure => simp [intOf]; omega
          | run h0 h1 h2 =>
            cases x with
            | true =>
              obtain ⟨rfl, rfl⟩ := on2 rfl
              clear on1 on2
              by_cases ho : p ≤ 0
              · exfalso
                omega
              · have hw : decide (p ≤ 0) = false := decide_eq_false (by omega)
                have hq : decide (p ≤ max (nw - (if false = true then (0 : Int) else nw)) 0) = false := decide_eq_false (by simp only [Bool.false_eq_true, if_false]; omega)
                have hrun1 := run_step (x := true) ⟨.inl rfl, by omega, by omega, by omega, by omega, .inr rfl⟩ p1 p2 (by omega : 0 ≤ nw) (by omega : nw ≤ 1125899906842624) ((on_on false false q1 _ 0 e1 p nw).trans (by rw [hq]))
                have jr1 := lrun_new BU.out hrun1 (outs_tm ⟨.inl rfl, by omega, by omega, by omega, by omega, .inl rfl⟩) (by simp)
                have hrun2 := run_step (x := true) ⟨.inr (.inl rfl), by omega, by omega, by omega, by omega, .inl rfl⟩ p1 p2 (by omega : 0 ≤ nw) (by omega : nw ≤ 1125899906842624) (off_on false true true _ fell e p nw)
                have ho2 := outs_step hrun2 ⟨.inr (.inl rfl), by omega, by omega, by omega, by omega, .inr rfl⟩
                have JR1 := Fact.mk jr1
                have RUN2 := Fact.mk hrun2
                have OUT2 := Fact.mk ho2
                clear hrun1 jr1 hrun2 ho2
                go_wp2_with fail
                refine JR1.out.mono ?_
                rintro e W3 ⟨v1, rfl, rd1, k3, g3, fr3⟩
                have d3 := BD.out.other g3 (Nat.ne_of_gt HNE.out)
                have D3 := Fact.mk d3
                have K3 := Fact.mk k3
                have RD1 := Fact.mk rd1
                have B3 := Fact.mk (HB.out.trans (grown_Below g3 HB.out.size lV))
                have FR3 := Fact.mk (show v1.ownBlock ≠ some W2.heap.size from LrunPost.fresh_ne fr3 BD.out)
                clear d3 k3 rd1 g3 fr3 JR1
                go_wp2_with fail
                refine (lrun_new D3.out RUN2.out OUT2.out (by simp)).mono ?_
                rintro e W4 ⟨v2, rfl, rd2, k4, g4, -⟩
                have u4 := K3.out.other g4 (Nat.ne_of_lt HNE.out)
                have rd1 := RD1.out.grown g4 FR3.out
                obtain ⟨y0, y1, y2, rfl, yc0, yc1⟩ := rd2.two64
                obtain ⟨z0, z1, z2, rfl, zc0, zc1⟩ := rd1.two64
                have b4 : Below w.heap.size w W4 := B3.out.trans (grown_Below g4 B3.out.size (Nat.le_trans lV (Nat.le_of_lt HNE.out)))
                have ST4 : Fact (LateSt w W4 W1.heap.size W2.heap.size p nw nw (-1) true true (k + 1)) := ⟨⟨_, _, _, u4, by omega, by omega, (fun _ => ⟨rfl, by omega, by omega⟩), (fun h => by cases h)⟩, ⟨_, _, _, _, k4, by omega, by omega, .on⟩, b4, lV, HNE.out, by omega, by omega⟩
                have hc4 : W4.cell? ⟨bi, oi + k, none⟩ = some (.bool true) := cell_below b4 _ _ CI.out
                rw [show truthI false = 0 from rfl] at zc0
                rw [show truthI true = 1 from rfl] at yc0
                clear g4 k4 rd2 rd1 b4 u4 ci zc1 yc1
                go_wp2_with fail
                go_roundw
                case rel => exact ⟨k + 1, nw, nw, (-1), true, true, by omega, by omega, by go_num, rfl, rfl, rfl, rfl, rfl, ST4⟩
                case measure => simp [intOf]; omega
            | false =>
              obtain ⟨rfl, rfl⟩ := on2 rfl
              clear on1 on2
              by_cases ho : p ≤ max (nw - (if (true : Bool) = true then fell else nw)) 0
              · have ho2 := ho
                simp only [if_true] at ho2
                have hf0 : decide (0 ≤ fell) = true := decide_eq_true h0
                have hw : decide (nw - fell < p) = false := decide_eq_false (by omega)
                have hrun1 := run_step (x := false) ⟨.inl rfl, by omega, by omega, by omega, by omega, .inr rfl⟩ p1 p2 (by omega : 0 ≤ nw) (by omega : nw ≤ 1125899906842624) (on_off false false q1 _ 0 e1 p nw)
                have jr1 := lrun_new BU.out hrun1 (outs_tm ⟨.inl rfl, by omega, by omega, by omega, by omega, .inr rfl⟩) (by simp)
                have hrun2 := run_step (x := false) ⟨.inr (.inl rfl), by omega, by omega, by omega, by omega, .inl rfl⟩ p1 p2 (by omega : 0 ≤ nw) (by omega : nw ≤ 1125899906842624) (off_over false true _ fell e ho)
                have ho2 := outs_step hrun2 ⟨.inr (.inl rfl), by omega, by omega, by omega, by omega, .inr rfl⟩
                have JR1 := Fact.mk jr1
                have RUN2 := Fact.mk hrun2
                have OUT2 := Fact.mk ho2
                clear hrun1 jr1 hrun2 ho2
                go_wp2_with fail
                refine JR1.out.mono ?_
                rintro e W3 ⟨v1, rfl, rd1, k3, g3, fr3⟩
                have d3 := BD.out.other g3 (Nat.ne_of_gt HNE.out)
                have D3 := Fact.mk d3
                have K3 := Fact.mk k3
                have RD1 := Fact.mk rd1
                have B3 := Fact.mk (HB.out.trans (grown_Below g3 HB.out.size lV))
                have FR3 := Fact.mk (show v1.ownBlock ≠ some W2.heap.size from LrunPost.fresh_ne fr3 BD.out)
                clear d3 k3 rd1 g3 fr3 JR1
                go_wp2_with fail
                refine (lrun_new D3.out RUN2.out OUT2.out (by simp)).mono ?_
                rintro e W4 ⟨v2, rfl, rd2, k4, g4, -⟩
                have u4 := K3.out.other g4 (Nat.ne_of_lt HNE.out)
                have rd1 := RD1.out.grown g4 FR3.out
                obtain ⟨y0, y1, y2, rfl, yc0, yc1⟩ := rd2.two64
                obtain ⟨z0, z1, z2, rfl, zc0, zc1⟩ := rd1.two64
                have b4 : Below w.heap.size w W4 := B3.out.trans (grown_Below g4 B3.out.size (Nat.le_trans lV (Nat.le_of_lt HNE.out)))
                have ST4 : Fact (LateSt w W4 W1.heap.size W2.heap.size p nw (-1) fell false true (k + 1)) := ⟨⟨_, _, _, u4, by omega, by omega, (fun h => by cases h), (fun _ => ⟨rfl, rfl⟩)⟩, ⟨_, _, _, _, k4, by omega, by omega, .done h0 (by omega) (by omega)⟩, b4, lV, HNE.out, by omega, by omega⟩
                have hc4 : W4.cell? ⟨bi, oi + k, none⟩ = some (.bool false) := cell_below b4 _ _ CI.out
                rw [show truthI false = 0 from rfl] at zc0
                rw [show truthI false = 0 from rfl] at yc0
                clear g4 k4 rd2 rd1 b4 u4 ci zc1 yc1
                go_wp2_with fail
                go_roundw
                case rel => exact ⟨k + 1, nw, (-1), fell, false, true, by omega, by omega, by go_num, rfl, rfl, rfl, rfl, rfl, ST4⟩
                case measure => simp [intOf]; omega
              · have ho2 := ho
                simp only [if_true] at ho2
                have hf0 : decide (0 ≤ fell) = true := decide_eq_true h0
                have hw : decide (nw - fell < p) = true := decide_eq_true (by omega)
                have hrun1 := run_step (x := false) ⟨.inl rfl, by omega, by omega, by omega, by omega, .inr rfl⟩ p1 p2 (by omega : 0 ≤ nw) (by omega : nw ≤ 1125899906842624) (on_off false false q1 _ 0 e1 p nw)
                have jr1 := lrun_new BU.out hrun1 (outs_tm ⟨.inl rfl, by omega, by omega, by omega, by omega, .inr rfl⟩) (by simp)
                have hrun2 := run_step (x := false) ⟨.inr (.inl rfl), by omega, by omega, by omega, by omega, .inl rfl⟩ p1 p2 (by omega : 0 ≤ nw) (by omega : nw ≤ 1125899906842624) (off_goes false true _ fell e ho)
                have ho2 := outs_step hrun2 ⟨.inr (.inl rfl), by omega, by omega, by omega, by omega, .inl rfl⟩
                have JR1 := Fact.mk jr1
                have RUN2 := Fact.mk hrun2
                have OUT2 := Fact.mk ho2
                clear hrun1 jr1 hrun2 ho2
                go_wp2_with fail
                refine JR1.out.mono ?_
                rintro e W3 ⟨v1, rfl, rd1, k3, g3, fr3⟩
                have d3 := BD.out.other g3 (Nat.ne_of_gt HNE.out)
                have D3 := Fact.mk d3
                have K3 := Fact.mk k3
                have RD1 := Fact.mk rd1
                have B3 := Fact.mk (HB.out.trans (grown_Below g3 HB.out.size lV))
                have FR3 := Fact.mk (show v1.ownBlock ≠ some W2.heap.size from LrunPost.fresh_ne fr3 BD.out)
                clear d3 k3 rd1 g3 fr3 JR1
                go_wp2_with fail
                refine (lrun_new D3.out RUN2.out OUT2.out (by simp)).mono ?_
                rintro e W4 ⟨v2, rfl, rd2, k4, g4, -⟩
                have u4 := K3.out.other g4 (Nat.ne_of_lt HNE.out)
                have rd1 := RD1.out.grown g4 FR3.out
                obtain ⟨y0, y1, y2, rfl, yc0, yc1⟩ := rd2.two64
                obtain ⟨z0, z1, z2, rfl, zc0, zc1⟩ := rd1.two64
                have b4 : Below w.heap.size w W4 := B3.out.trans (grown_Below g4 B3.out.size (Nat.le_trans lV (Nat.le_of_lt HNE.out)))
                have ST4 : Fact (LateSt w W4 W1.heap.size W2.heap.size p nw (-1) fell false true (k + 1)) := ⟨⟨_, _, _, u4, by omega, by omega, (fun h => by cases h), (fun _ => ⟨rfl, rfl⟩)⟩, ⟨_, _, _, _, k4, by omega, by omega, .run h0 (by omega) (by omega)⟩, b4, lV, HNE.out, by omega, by omega⟩
                have hc4 : W4.cell? ⟨bi, oi + k, none⟩ = some (.bool false) := cell_below b4 _ _ CI.out
                rw [show truthI false = 0 from rfl] at zc0
                rw [show truthI true = 1 from rfl] at yc0
                clear g4 k4 rd2 rd1 b4 u4 ci zc1 yc1
                go_wp2_with fail
                go_roundw
                case rel => exact ⟨k + 1, nw, (-1), fell, false, true, by omega, by omega, by go_num, rfl, rfl, rfl, rfl, rfl, ST4⟩
                case measure => simp [intOf]; omega
          | done h0 h1 h2 =>
            cases x with
            | true =>
              obtain ⟨rfl, rfl⟩ := on2 rfl
              clear on1 on2
              by_cases ho : p ≤ 0
              · have hw : decide (p ≤ 0) = true := decide_eq_true (by omega)
                have hq : decide (p ≤ max (nw - (if false = true then (0 : Int) else nw)) 0) = true := decide_eq_true (by simp only [Bool.false_eq_true, if_false]; omega)
                have hrun1 := run_step (x := true) ⟨.inl rfl, by omega, by omega, by omega, by omega, .inr rfl⟩ p1 p2 (by omega : 0 ≤ nw) (by omega : nw ≤ 1125899906842624) ((on_on false false q1 _ 0 e1 p nw).trans (by rw [hq]))
                have jr1 := lrun_new BU.out hrun1 (outs_tm ⟨.inl rfl, by omega, by omega, by omega, by omega, .inl rfl⟩) (by simp)
                have hrun2 := run_step (x := true) ⟨.inr (.inl rfl), by omega, by omega, by omega, by omega, .inr rfl⟩ p1 p2 (by omega : 0 ≤ nw) (by omega : nw ≤ 1125899906842624) (off_on false false false _ 0 e p nw)
                have ho2 := outs_step hrun2 ⟨.inr (.inl rfl), by omega, by omega, by omega, by omega, .inr rfl⟩
                have JR1 := Fact.mk jr1
                have RUN2 := Fact.mk hrun2
                have OUT2 := Fact.mk ho2
                clear hrun1 jr1 hrun2 ho2
                go_wp2_with fail
                refine JR1.out.mono ?_
                rintro e W3 ⟨v1, rfl, rd1, k3, g3, fr3⟩
                have d3 := BD.out.other g3 (Nat.ne_of_gt HNE.out)
                have D3 := Fact.mk d3
                have K3 := Fact.mk k3
                have RD1 := Fact.mk rd1
                have B3 := Fact.mk (HB.out.trans (grown_Below g3 HB.out.size lV))
                have FR3 := Fact.mk (show v1.ownBlock ≠ some W2.heap.size from LrunPost.fresh_ne fr3 BD.out)
                clear d3 k3 rd1 g3 fr3 JR1
                go_wp2_with fail
                refine (lrun_new D3.out RUN2.out OUT2.out (by simp)).mono ?_
                rintro e W4 ⟨v2, rfl, rd2, k4, g4, -⟩
                have u4 := K3.out.other g4 (Nat.ne_of_lt HNE.out)
                have rd1 := RD1.out.grown g4 FR3.out
                obtain ⟨y0, y1, y2, rfl, yc0, yc1⟩ := rd2.two64
                obtain ⟨z0, z1, z2, rfl, zc0, zc1⟩ := rd1.two64
                have b4 : Below w.heap.size w W4 := B3.out.trans (grown_Below g4 B3.out.size (Nat.le_trans lV (Nat.le_of_lt HNE.out)))
                have ST4 : Fact (LateSt w W4 W1.heap.size W2.heap.size p nw nw (-1) true true (k + 1)) := ⟨⟨_, _, _, u4, by omega, by omega, (fun _ => ⟨rfl, by omega, by omega⟩), (fun h => by cases h)⟩, ⟨_, _, _, _, k4, by omega, by omega, .on⟩, b4, lV, HNE.out, by omega, by omega⟩
                have hc4 : W4.cell? ⟨bi, oi + k, none⟩ = some (.bool true) := cell_below b4 _ _ CI.out
                rw [show truthI true = 1 from rfl] at zc0
                rw [show truthI true = 1 from rfl] at yc0
                clear g4 k4 rd2 rd1 b4 u4 ci zc1 yc1
                go_wp2_with fail
                go_roundw
                case rel => exact ⟨k + 1, nw, nw, (-1), true, true, by omega, by omega, by go_num, rfl, rfl, rfl, rfl, rfl, ST4⟩
                case measure => simp [intOf]; omega
              · have hw : decide (p ≤ 0) = false := decide_eq_false (by omega)
                have hq : decide (p ≤ max (nw - (if false = true then (0 : Int) else nw)) 0) = false := decide_eq_false (by simp only [Bool.false_eq_true, if_false]; omega)
                have hrun1 := run_step (x := true) ⟨.inl rfl, by omega, by omega, by omega, by omega, .inr rfl⟩ p1 p2 (by omega : 0 ≤ nw) (by omega : nw ≤ 1125899906842624) ((on_on false false q1 _ 0 e1 p nw).trans (by rw [hq]))
                have jr1 := lrun_new BU.out hrun1 (outs_tm ⟨.inl rfl, by omega, by omega, by omega, by omega, .inl rfl⟩) (by simp)
                have hrun2 := run_step (x := true) ⟨.inr (.inl rfl), by omega, by omega, by omega, by omega, .inr rfl⟩ p1 p2 (by omega : 0 ≤ nw) (by omega : nw ≤ 1125899906842624) (off_on false false false _ 0 e p nw)
                have ho2 := outs_step hrun2 ⟨.inr (.inl rfl), by omega, by omega, by omega, by omega, .inr rfl⟩
                have JR1 := Fact.mk jr1
                have RUN2 := Fact.mk hrun2
                have OUT2 := Fact.mk ho2
                clear hrun1 jr1 hrun2 ho2
                go_wp2_with fail
                refine JR1.out.mono ?_
                rintro e W3 ⟨v1, rfl, rd1, k3, g3, fr3⟩
                have d3 := BD.out.other g3 (Nat.ne_of_gt HNE.out)
                have D3 := Fact.mk d3
                have K3 := Fact.mk k3
                have RD1 := Fact.mk rd1
                have B3 := Fact.mk (HB.out.trans (grown_Below g3 HB.out.size lV))
                have FR3 := Fact.mk (show v1.ownBlock ≠ some W2.heap.size from LrunPost.fresh_ne fr3 BD.out)
                clear d3 k3 rd1 g3 fr3 JR1
                go_wp2_with fail
                refine (lrun_new D3.out RUN2.out OUT2.out (by simp)).mono ?_
                rintro e W4 ⟨v2, rfl, rd2, k4, g4, -⟩
                have u4 := K3.out.other g4 (Nat.ne_of_lt HNE.out)
                have rd1 := RD1.out.grown g4 FR3.out
                obtain ⟨y0, y1, y2, rfl, yc0, yc1⟩ := rd2.two64
                obtain ⟨z0, z1, z2, rfl, zc0, zc1⟩ := rd1.two64
                have b4 : Below w.heap.size w W4 := B3.out.trans (grown_Below g4 B3.out.size (Nat.le_trans lV (Nat.le_of_lt HNE.out)))
                have ST4 : Fact (LateSt w W4 W1.heap.size W2.heap.size p nw nw (-1) true true (k + 1)) := ⟨⟨_, _, _, u4, by omega, by omega, (fun _ => ⟨rfl, by omega, by omega⟩), (fun h => by cases h)⟩, ⟨_, _, _, _, k4, by omega, by omega, .on⟩, b4, lV, HNE.out, by omega, by omega⟩
                have hc4 : W4.cell? ⟨bi, oi + k, none⟩ = some (.bool true) := cell_below b4 _ _ CI.out
                rw [show truthI false = 0 from rfl] at zc0
                rw [show truthI true = 1 from rfl] at yc0
                clear g4 k4 rd2 rd1 b4 u4 ci zc1 yc1
                go_wp2_with fail
                go_roundw
                case rel => exact ⟨k + 1, nw, nw, (-1), true, true, by omega, by omega, by go_num, rfl, rfl, rfl, rfl, rfl, ST4⟩
                case measure => simp [intOf]; omega
            | false =>
              obtain ⟨rfl, rfl⟩ := on2 rfl
              clear on1 on2
              have hf0 : decide (0 ≤ fell) = true := decide_eq_true h0
              have hw : decide (nw - fell < p) = false := decide_eq_false (by omega)
              have hrun1 := run_step (x := false) ⟨.inl rfl, by omega, by omega, by omega, by omega, .inr rfl⟩ p1 p2 (by omega : 0 ≤ nw) (by omega : nw ≤ 1125899906842624) (on_off false false q1 _ 0 e1 p nw)
              have jr1 := lrun_new BU.out hrun1 (outs_tm ⟨.inl rfl, by omega, by omega, by omega, by omega, .inr rfl⟩) (by simp)
              have hrun2 := run_step (x := false) ⟨.inr (.inl rfl), by omega, by omega, by omega, by omega, .inr rfl⟩ p1 p2 (by omega : 0 ≤ nw) (by omega : nw ≤ 1125899906842624) (off_idle false false _ 0 e p nw)
              have ho2 := outs_step hrun2 ⟨.inr (.inl rfl), by omega, by omega, by omega, by omega, .inr rfl⟩
              have JR1 := Fact.mk jr1
              have RUN2 := Fact.mk hrun2
              have OUT2 := Fact.mk ho2
              clear hrun1 jr1 hrun2 ho2
              go_wp2_with fail
              refine JR1.out.mono ?_
              rintro e W3 ⟨v1, rfl, rd1, k3, g3, fr3⟩
              have d3 := BD.out.other g3 (Nat.ne_of_gt HNE.out)
              have D3 := Fact.mk d3
              have K3 := Fact.mk k3
              have RD1 := Fact.mk rd1
              have B3 := Fact.mk (HB.out.trans (grown_Below g3 HB.out.size lV))
              have FR3 := Fact.mk (show v1.ownBlock ≠ some W2.heap.size from LrunPost.fresh_ne fr3 BD.out)
              clear d3 k3 rd1 g3 fr3 JR1
              go_wp2_with fail
              refine (lrun_new D3.out RUN2.out OUT2.out (by simp)).mono ?_
              rintro e W4 ⟨v2, rfl, rd2, k4, g4, -⟩
              have u4 := K3.out.other g4 (Nat.ne_of_lt HNE.out)
              have rd1 := RD1.out.grown g4 FR3.out
              obtain ⟨y0, y1, y2, rfl, yc0, yc1⟩ := rd2.two64
              obtain ⟨z0, z1, z2, rfl, zc0, zc1⟩ := rd1.two64
              have b4 : Below w.heap.size w W4 := B3.out.trans (grown_Below g4 B3.out.size (Nat.le_trans lV (Nat.le_of_lt HNE.out)))
              have ST4 : Fact (LateSt w W4 W1.heap.size W2.heap.size p nw (-1) fell false true (k + 1)) := ⟨⟨_, _, _, u4, by omega, by omega, (fun h => by cases h), (fun _ => ⟨rfl, rfl⟩)⟩, ⟨_, _, _, _, k4, by omega, by omega, .done h0 (by omega) (by omega)⟩, b4, lV, HNE.out, by omega, by omega⟩
              have hc4 : W4.cell? ⟨bi, oi + k, none⟩ = some (.bool false) := cell_below b4 _ _ CI.out
              rw [show truthI false = 0 from rfl] at zc0
              rw [show truthI false = 0 from rfl] at yc0
              clear g4 k4 rd2 rd1 b4 u4 ci zc1 yc1
              go_wp2_with fail
              go_roundw
              case rel => exact ⟨k + 1, nw, (-1), fell, false, true, by omega, by omega, by go_num, rfl, rfl, rfl, rfl, rfl, ST4⟩
              case measure => simp [intOf]; omega
      · obtain rfl : k = 60 := by omega
        have i1 : ((60 : Nat) : Int) < (xs.length : Int) := by omega
        have HB := Fact.mk hst.out.bel
        clear hst
        go_wp2_with fail
        refine (pulses_any xs ls HLS.out _ _ p p1 p2 _ (HR.out.below HB.out) (HL.out.below HB.out)).mono ?_
        rintro e W5 ⟨rfl, hb5⟩
        have B5 := Fact.mk (HB.out.trans (hb5.mono HB.out.size))
        clear hb5
        go_wp2_with fail
        refine (awk _).mono ?_
        rintro e W6 ⟨rfl, hb6⟩
        have B6 := Fact.mk (B5.out.trans (hb6.mono B5.out.size))
        clear hb6
        go_wp2_with fail
        go_ret
        exact ⟨rfl, B6.out⟩
    · obtain rfl : k = xs.length := by omega
      have HB := Fact.mk hst.out.bel
      clear hst
      go_wp2_with fail
      refine (pulses_any xs ls HLS.out _ _ p p1 p2 _ (HR.out.below HB.out) (HL.out.below HB.out)).mono ?_
      rintro e W5 ⟨rfl, hb5⟩
      have B5 := Fact.mk (HB.out.trans (hb5.mono HB.out.size))
      clear hb5
      go_wp2_with fail
      refine (awk _).mono ?_
      rintro e W6 ⟨rfl, hb6⟩
      have B6 := Fact.mk (B5.out.trans (hb6.mono B5.out.size))
      clear hb6
      go_wp2_with fail
      go_ret
      exact ⟨rfl, B6.out⟩
end Go.Proofs.Ytjanofopmmndoaa
