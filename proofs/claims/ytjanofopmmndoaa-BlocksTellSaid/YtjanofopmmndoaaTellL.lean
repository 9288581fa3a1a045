/- BlocksTell: the walk. -/
import Derived.Test.YtjanofopmmndoaaRefN
import Derived.Test.YtjanofopmmndoaaRefO
import Derived.Test.YtjanofopmmndoaaOutsL
import Derived.Test.YtjanofopmmndoaaRBlkM
import Derived.Test.YtjanofopmmndoaaSame64
import Derived.Deep.CutBlock
namespace Go.Proofs.Ytjanofopmmndoaa
open Go.RowKit
theorem new_two (k : Int) : ∃ kn ec, (∀ w, Calls Try.prog 11 #[.int .u8 k] w fun e w' => e = .returned (.tuple #[.agg #[.int .u8 kn, .bool false, .bool false, .bool false, .bool false, .int .i64 0, .int .i64 0, .int .i64 0, .bool false, .bool false], .int .i64 ec]) ∧ Below w.heap.size w w') ∧ (∀ w, Calls Try.prog 12 #[.int .u8 k] w fun e w' => e = .returned (.tuple #[.agg #[.int .u8 kn, .bool false, .bool false, .bool false, .bool false, .int .i64 0, .int .i64 0, .int .i64 0, .bool false, .bool false], .int .i64 ec]) ∧ Below w.heap.size w w') := by
  by_cases h1 : k < 1
  · exact ⟨0, 2, new_no k (.inl h1), rnew_lo k h1⟩
  · by_cases h2 : 11 < k
    · exact ⟨0, 2, new_no k (.inr h2), rnew_hi k h2⟩
    · exact ⟨k, 0, new_any k (by omega) (by omega), rnew_any k (by omega) (by omega)⟩
theorem same_yes (w : World) (v1 v2 : Value) (xs : List Int) (h1 : Rd oneI64 1 w v1 xs) (h2 : Rd oneI64 1 w v2 xs) : Calls Try.prog 15 #[v1, v2] w fun e w' => e = .returned (.bool true) ∧ Below w.heap.size w w' := by
  have h := same64_any w v1 v2 xs xs h1 h2
  rwa [decide_eq_true (rfl : xs = xs)] at h
def NewAt (w : World) (g : Nat) (kn : Int) : Prop := w.heap[g]? = some (.cells #[.int .u8 kn, .bool false, .bool false, .bool false, .bool false, .int .i64 0, .int .i64 0, .int .i64 0, .bool false, .bool false] 25 (0, 0))
structure TellSt (w wr : World) (V : Nat) (now : Int) : Prop where
  blk : ∃ b, BlkAt wr V b
  bel : Below w.heap.size w wr
  lo : w.heap.size ≤ V
  n1 : -9223372036854775808 ≤ now
  n2 : now ≤ 9223372036854775807
set_option maxRecDepth 100000 in
set_option maxHeartbeats 16000000 in
theorem tell_any (awk : ∀ w, Calls Try.prog 20 #[] w fun e w' => e = .returned (.bool true) ∧ Below w.heap.size w w') (b0 : GBlock) (now0 : Int) (m1 : -9223372036854775808 ≤ now0) (m2 : now0 ≤ 9223372036854775807) (ls : List (Value × Int)) (vl : Value) (w : World) (hl : Rd encGo 2 w vl ls) (hls : ∀ a ∈ ls, GoOk w a) : Calls Try.prog 3 #[vBlk b0, .int .i64 now0, vl] w fun e w' => e = .returned (.bool true) ∧ Below w.heap.size w w' := by
  obtain ⟨Al, cl, rfl, l0⟩ : ∃ A c, vl = .slice A ls.length c ∧ ls.length ≤ 9223372036854775807 := by
    obtain ⟨h0, A, c, e, _⟩ := hl
    exact ⟨A, c, e, h0⟩
  have HL := Fact.mk hl
  have HLS := Fact.mk hls
  clear hl hls
  obtain ⟨kn, ec, hN, hM⟩ := new_two b0.kind
  have HM := Fact.mk hM
  clear hM
  obtain ⟨h1, h2, h3⟩ := one_block w (Obj.cells #[.int .u8 b0.kind, .bool b0.w0, .bool b0.w1, .bool b0.ran, .bool b0.going, .int .i64 b0.frm, .int .i64 b0.et, .int .i64 b0.cv, .bool b0.q, .bool b0.p] 25)
  have HB0 := Fact.mk h1
  have HK0 : Fact (BlkAt (w.alloc (Obj.cells #[.int .u8 b0.kind, .bool b0.w0, .bool b0.w1, .bool b0.ran, .bool b0.going, .int .i64 b0.frm, .int .i64 b0.et, .int .i64 b0.cv, .bool b0.q, .bool b0.p] 25)) w.heap.size b0) := ⟨h2⟩
  clear h1 h2 h3
  unfold vBlk
  go_enter Try.func3, Try.ntmps3
  go_wp2_with fail
  refine (hN _).mono ?_
  rintro e W1 ⟨rfl, hb1⟩
  have K1 := Fact.mk (HK0.out.below hb1)
  have B1 := Fact.mk (HB0.out.trans (hb1.mono HB0.out.size))
  clear hb1 hN
  have S1 := K1.out.lt
  obtain ⟨d0, d1, d2, d3, d4, d5, d6, d7, d8, d9, -, -, -, -, -, -, -, -, -, -⟩ := row10 K1.out
  go_wp2_with fail
  refine (HM.out _).mono ?_
  rintro e W2 ⟨rfl, hb2⟩
  obtain ⟨t1, t2, t3⟩ := one_block W1 (Obj.cells #[.int .u8 kn, .bool false, .bool false, .bool false, .bool false, .int .i64 0, .int .i64 0, .int .i64 0, .bool false, .bool false] 25)
  have K2 := Fact.mk ((K1.out.below t1).below hb2)
  have N2 : Fact (NewAt W2 W1.heap.size kn) := ⟨(hb2.block W1.heap.size (by rw [t3]; omega)).trans t2⟩
  have B2 := Fact.mk (B1.out.trans ((t1.trans (hb2.mono t1.size)).mono B1.out.size))
  have S2 : W1.heap.size < W2.heap.size := by have := hb2.size; rw [t3] at this; omega
  clear hb2 HM t1 t2 t3 d0 d1 d2 d3 d4 d5 d6 d7 d8 d9
  obtain ⟨t1, t2, t3⟩ := one_block W2 (Obj.cells #[.int .u8 kn, .bool false, .bool false, .bool false, .bool false, .int .i64 0, .int .i64 0, .int .i64 0, .bool false, .bool false] 25)
  have K3 := Fact.mk (K2.out.below t1)
  have N3 : Fact (NewAt (W2.alloc (Obj.cells #[.int .u8 kn, .bool false, .bool false, .bool false, .bool false, .int .i64 0, .int .i64 0, .int .i64 0, .bool false, .bool false] 25)) W1.heap.size kn) := ⟨(t1.block W1.heap.size S2).trans N2.out⟩
  have M3 : Fact (NewAt (W2.alloc (Obj.cells #[.int .u8 kn, .bool false, .bool false, .bool false, .bool false, .int .i64 0, .int .i64 0, .int .i64 0, .bool false, .bool false] 25)) W2.heap.size kn) := ⟨t2⟩
  have B3 := Fact.mk (B2.out.trans (t1.mono B2.out.size))
  clear t1 t2 t3
  go_upto_region 3 with (fail)
  generalize W2.alloc (Obj.cells #[.int .u8 kn, .bool false, .bool false, .bool false, .bool false, .int .i64 0, .int .i64 0, .int .i64 0, .bool false, .bool false] 25) = W3 at K3 N3 M3 B3 ⊢
  go_cut [51] (fun s51 wx => s51 = .bool false ∧ Below W3.heap.size W3 wx)
  case first =>
    have S3a := K3.out.lt
    have eqn := eq_blk (newB kn)
    simp only [newB] at eqn
    have hrr := rblk_any b0
    have hqq := refr_any b0
    have hoo := outs_any b0
    have hpp := refo_any b0
    unfold vBlk at hrr hqq hoo hpp
    have HRR := Fact.mk hrr
    have HQQ := Fact.mk hqq
    have HOO := Fact.mk hoo
    have HPP := Fact.mk hpp
    clear hrr hqq hoo hpp K1 K2 N2 B1 B2
    obtain ⟨d0, d1, d2, d3, d4, d5, d6, d7, d8, d9, -, -, -, -, -, -, -, -, -, -⟩ := row10 K3.out
    obtain ⟨n0, n1, n2, n3, n4, n5, n6, n7, n8, n9, -, -, -, -, -, -, -, -, -, -⟩ := row10 N3.out
    obtain ⟨m0, m1, m2, m3, m4, m5, m6, m7, m8, m9, -, -, -, -, -, -, -, -, -, -⟩ := row10 M3.out
    go_region_with (first
      | (go_at_call 13; refine (HRR.out _).mono ?_; rintro e W4 ⟨rfl, hb4⟩; have K4 := Fact.mk (K3.out.below (below_cl (below_drw W3) hb4)); have B4 := Fact.mk (below_cl (below_drw W3) hb4); clear hb4; obtain ⟨u0, u1, u2, u3, u4, u5, u6, u7, u8, u9, -, -, -, -, -, -, -, -, -, -⟩ := row10 K4.out)
      | (go_at_call 14; refine (HQQ.out _).mono ?_; rintro e W5 ⟨rfl, hb5⟩; have K5 := Fact.mk (K3.out.below (below_cl B4.out hb5)); have B5 := Fact.mk (below_cl B4.out hb5); clear hb5; obtain ⟨v0, v1, v2, v3, v4, v5, v6, v7, v8, v9, -, -, -, -, -, -, -, -, -, -⟩ := row10 K5.out)
      | (go_at_call 16; refine (HOO.out _).mono ?_; rintro e W6 ⟨v6, rfl, ho6, hb6, -⟩; have K6 := Fact.mk (K3.out.below (below_cl B5.out hb6)); have B6 := Fact.mk (below_cl B5.out hb6); have O6 := Fact.mk ho6; clear hb6 ho6; obtain ⟨x0, x1, x2, x3, x4, x5, x6, x7, x8, x9, -, -, -, -, -, -, -, -, -, -⟩ := row10 K6.out)
      | (go_at_call 17; refine (HPP.out _).mono ?_; rintro e W7 ⟨v7, rfl, ho7, hb7, -⟩; have B7 := Fact.mk (below_cl B6.out hb7); have O7 := Fact.mk (O6.out.below hb7); have P7 := Fact.mk ho7; clear hb7 ho7)
      | (go_at_call 15; refine (same_yes _ _ _ _ O7.out P7.out).mono ?_; rintro e W8 ⟨rfl, hb8⟩; have B8 := Fact.mk (below_cl B7.out hb8); clear hb8))
    all_goals go_wp2_with fail
    all_goals go_meet
    all_goals exact ⟨rfl, B8.out⟩
  case rest =>
    obtain ⟨rfl, hbc⟩ := hcut
    have ST : Fact (TellSt w wc w.heap.size now0) := ⟨⟨⟨b0, K3.out.below hbc⟩, B3.out.trans (hbc.mono B3.out.size), Nat.le_refl _, m1, m2⟩⟩
    clear hbc K1 K2 K3 N2 N3 M3 B1 B2 B3 HB0 HK0 S1 S2
    go_wp2_with fail
    go_loopw [1, 11] (fun sn i wr => ∃ (k : Nat) (now : Int), k ≤ ls.length ∧ k ≤ 40 ∧ i = .int .i64 k ∧ sn = .int .i64 now ∧ Fact (TellSt w wr w.heap.size now)) (fun _ i _ => 40 - (intOf i).toNat)
    case atStart => exact ⟨0, now0, Nat.zero_le _, Nat.zero_le _, rfl, rfl, ST⟩
    case round =>
      obtain ⟨k, now, hk, hk6, rfl, rfl, hst⟩ := hrel
      by_cases hk2 : k < ls.length
      · by_cases h62 : k < 40
        · obtain ⟨b, hblk⟩ := hst.out.blk
          have BK := Fact.mk hblk
          have i1 : (k : Int) < (ls.length : Int) := by omega
          have i2 : (k : Int) < 40 := by omega
          have n1 := hst.out.n1
          have n2 := hst.out.n2
          have ST2 := Fact.mk hst.out
          clear hst hblk
          obtain ⟨bl, ol, cl', el, cl1, cl2⟩ := (HL.out.below ST2.out.bel).atGo k hk2
          cases el
          obtain ⟨⟨vx', L⟩, hx⟩ : ∃ x, ls[k] = x := ⟨_, rfl⟩
          have hok := HLS.out _ (List.getElem_mem hk2)
          have cw0 : w.cell? ⟨bl, ol + k * 2 + 1, none⟩ = some (.int .u16 ls[k].2) := by obtain ⟨_, _, _, e2, _, h2⟩ := HL.out.atGo k hk2; cases e2; exact h2
          rw [hx] at cl1 cl2 hok cw0
          have CW := Fact.mk cw0
          obtain ⟨⟨ins, hins⟩, L1, L2⟩ := hok
          obtain ⟨Ax, nx, cx, rfl⟩ := hins.slice
          obtain ⟨hnx, hcut⟩ := (hins.below ST2.out.bel).cut
          have RX := Fact.mk hcut
          have nx0 : nx ≤ 9223372036854775807 := by rw [hnx]; exact hins.1
          have ncx : nx ≤ cx := by
            obtain ⟨_, _, _, e, h, _⟩ := hins
            cases e
            omega
          have hrun := fun W (hw : Below wr.heap.size wr W) => run_any b (ins.take 8) (.slice Ax (min nx 8) cx) now W (RX.out.below hw)
          have hrrun := fun W (hw : Below wr.heap.size wr W) => rrun_any b (ins.take 8) (.slice Ax (min nx 8) cx) now W (RX.out.below hw)
          obtain ⟨b', hb'⟩ : ∃ b', (runB b (ins.take 8) now).1 = b' := ⟨_, rfl⟩
          obtain ⟨e', he'⟩ : ∃ e', (runB b (ins.take 8) now).2 = e' := ⟨_, rfl⟩
          rw [hb', he'] at hrun hrrun
          unfold vBlk at hrun hrrun
          have HRUN := Fact.mk hrun
          have HRRUN := Fact.mk hrrun
          have lb1 : bl < wr.heap.size := World.block_lt_of_cell? wr _ cl1
          have lb2 : w.heap.size < wr.heap.size := BK.out.lt
          clear hx hins hcut hnx cw0 hrun hrrun hb' he' cl2
          go_upto_region 8 with (fail)
          go_cut [12] (fun s12 wx => s12 = .slice Ax (min nx 8) cx ∧ Below wr.heap.size wr wx)
          case first =>
            by_cases h8 : nx ≤ 8
            · have hm8 : min nx 8 = nx := by omega
              have HM8 := Fact.mk hm8
              have e1 : ¬ (8 : Int) < (nx : Int) := by omega
              have e2 : (nx : Int) ≤ (cx : Int) := by omega
              clear hm8
              go_quiet (fail)
              go_wp2_with fail
              go_meet
              exact ⟨by rw [HM8.out], below_dn wr _⟩
            · have hm8 : min nx 8 = 8 := by omega
              have HM8 := Fact.mk hm8
              have e1 : (8 : Int) < (nx : Int) := by omega
              have e2 : (8 : Int) ≤ (cx : Int) := by omega
              clear hm8
              go_quiet (fail)
              go_wp2_with fail
              go_meet
              exact ⟨by rw [HM8.out], below_dn wr _⟩
          case rest =>
            obtain ⟨rfl, hb0⟩ := hcut
            have BK0 := Fact.mk (BK.out.below hb0)
            have HB0 := Fact.mk hb0
            clear hb0 cl1
            obtain ⟨d0, d1, d2, d3, d4, d5, d6, d7, d8, d9, -, -, -, -, -, -, -, -, -, -⟩ := row10 BK0.out
            go_wp2_with fail
            refine (HRUN.out _ HB0.out).mono ?_
            rintro e W4 ⟨rfl, hb4⟩
            have B4 := Fact.mk (below_cl HB0.out hb4)
            have BK4 := Fact.mk (BK0.out.below hb4)
            have lt4 := BK4.out.lt
            clear hb4 d0 d1 d2 d3 d4 d5 d6 d7 d8 d9
            obtain ⟨d0, d1, d2, d3, d4, d5, d6, d7, d8, d9, -, -, -, -, -, -, -, -, -, -⟩ := row10 BK4.out
            go_wp2_with fail
            obtain ⟨t1, t2, t3⟩ := one_block W4 (Obj.cells #[.int .u8 b'.kind, .bool b'.w0, .bool b'.w1, .bool b'.ran, .bool b'.going, .int .i64 b'.frm, .int .i64 b'.et, .int .i64 b'.cv, .bool b'.q, .bool b'.p] 25)
            refine (HRRUN.out _ (below_cl B4.out t1)).mono ?_
            rintro e W5 ⟨rfl, hb5⟩
            have B5 := Fact.mk (below_cl (below_cl B4.out t1) hb5)
            have BK5 := Fact.mk ((BK4.out.below t1).below hb5)
            have X5 : Fact (BlkAt W5 W4.heap.size b') := ⟨(show BlkAt (W4.alloc (Obj.cells #[.int .u8 b'.kind, .bool b'.w0, .bool b'.w1, .bool b'.ran, .bool b'.going, .int .i64 b'.frm, .int .i64 b'.et, .int .i64 b'.cv, .bool b'.q, .bool b'.p] 25)) W4.heap.size b' from t2).below hb5⟩
            have lt5 := X5.out.lt
            clear t1 t2 t3 hb5 d0 d1 d2 d3 d4 d5 d6 d7 d8 d9
            obtain ⟨t1, t2, t3⟩ := one_block W5 (Obj.cells #[.int .u8 b'.kind, .bool b'.w0, .bool b'.w1, .bool b'.ran, .bool b'.going, .int .i64 b'.frm, .int .i64 b'.et, .int .i64 b'.cv, .bool b'.q, .bool b'.p] 25)
            have BK6 := Fact.mk (BK5.out.below t1)
            have X6 := Fact.mk (X5.out.below t1)
            have Y6 : Fact (BlkAt (W5.alloc (Obj.cells #[.int .u8 b'.kind, .bool b'.w0, .bool b'.w1, .bool b'.ran, .bool b'.going, .int .i64 b'.frm, .int .i64 b'.et, .int .i64 b'.cv, .bool b'.q, .bool b'.p] 25)) W5.heap.size b') := ⟨t2⟩
            have B6 := Fact.mk (below_cl B5.out t1)
            clear t1 t2 t3 BK0 BK4 BK5 X5 HB0 B4 B5
            go_upto_region 11 with (fail)
            generalize W5.alloc (Obj.cells #[.int .u8 b'.kind, .bool b'.w0, .bool b'.w1, .bool b'.ran, .bool b'.going, .int .i64 b'.frm, .int .i64 b'.et, .int .i64 b'.cv, .bool b'.q, .bool b'.p] 25) = W6 at BK6 X6 Y6 B6 ⊢
            go_cut [104] (fun s104 wx => s104 = .bool false ∧ Below W6.heap.size W6 wx)
            case first =>
              have eqn := eq_blk b'
              have hoo := outs_any b'
              have hpp := refo_any b'
              unfold vBlk at hoo hpp
              have HOO := Fact.mk hoo
              have HPP := Fact.mk hpp
              clear hoo hpp BK6 HRUN HRRUN RX BK
              obtain ⟨d0, d1, d2, d3, d4, d5, d6, d7, d8, d9, -, -, -, -, -, -, -, -, -, -⟩ := row10 X6.out
              obtain ⟨m0, m1, m2, m3, m4, m5, m6, m7, m8, m9, -, -, -, -, -, -, -, -, -, -⟩ := row10 Y6.out
              go_region_with (first
                | (go_at_call 16; refine (HOO.out _).mono ?_; rintro e W7 ⟨v7, rfl, ho7, hb7, -⟩; have K7 := Fact.mk (Y6.out.below (below_cl (below_drw W6) hb7)); have B7 := Fact.mk (below_cl (below_drw W6) hb7); have O7 := Fact.mk ho7; clear hb7 ho7; obtain ⟨u0, u1, u2, u3, u4, u5, u6, u7, u8, u9, -, -, -, -, -, -, -, -, -, -⟩ := row10 K7.out)
                | (go_at_call 17; refine (HPP.out _).mono ?_; rintro e W8 ⟨v8, rfl, ho8, hb8, -⟩; have B8 := Fact.mk (below_cl B7.out hb8); have O8 := Fact.mk (O7.out.below hb8); have P8 := Fact.mk ho8; clear hb8 ho8)
                | (go_at_call 15; refine (same_yes _ _ _ _ O8.out P8.out).mono ?_; rintro e W9 ⟨rfl, hb9⟩; have B9 := Fact.mk (below_cl B8.out hb9); clear hb9))
              all_goals go_wp2_with fail
              all_goals go_meet
              all_goals exact ⟨rfl, B9.out⟩
            case rest =>
              obtain ⟨rfl, hbc⟩ := hcut
              have BV := Fact.mk (BK6.out.below hbc)
              have HG := Fact.mk (X6.out.below hbc)
              have BEL : Fact (Below w.heap.size w wc) := ⟨ST2.out.bel.trans ((below_cl B6.out hbc).mono ST2.out.bel.size)⟩
              clear hbc BK6 X6 Y6 B6
              obtain ⟨d0, d1, d2, d3, d4, d5, d6, d7, d8, d9, -, -, -, -, -, -, -, -, -, -⟩ := row10 HG.out
              obtain ⟨q0, q1, q2, q3, q4, q5, q6, q7, q8, q9, f0, f1, f2, f3, f4, f5, f6, f7, f8, f9⟩ := row10 BV.out
              go_upto_region 14 with (fail)
              obtain ⟨w2, e2, h2, g2⟩ := store10 BV.out (.int .u8 b'.kind) (.bool b'.w0) (.bool b'.w1) (.bool b'.ran) (.bool b'.going) (.int .i64 b'.frm) (.int .i64 b'.et) (.int .i64 b'.cv) (.bool b'.q) (.bool b'.p)
              rw [e2]
              have b5 : Below w.heap.size w w2 := BEL.out.trans (grown_Below g2 BEL.out.size (Nat.le_refl _))
              have cw := cell_below b5 _ _ CW.out
              clear e2 q0 q1 q2 q3 q4 q5 q6 q7 q8 q9 d0 d1 d2 d3 d4 d5 d6 d7 d8 d9 f0 f1 f2 f3 f4 f5 f6 f7 f8 f9
              by_cases hn60 : now < 1152921504606846976
              · have ST5 : Fact (TellSt w w2 w.heap.size (now + L)) := ⟨⟨⟨_, h2⟩, b5, Nat.le_refl _, by omega, by omega⟩⟩
                clear h2 g2 b5
                go_wp2_with fail
                go_roundw
                case rel => exact ⟨k + 1, now + L, by omega, by omega, by go_num, rfl, ST5⟩
                case measure => simp [intOf]; omega
              · have ST5 : Fact (TellSt w w2 w.heap.size now) := ⟨⟨⟨_, h2⟩, b5, Nat.le_refl _, by omega, by omega⟩⟩
                clear h2 g2 b5
                go_wp2_with fail
                go_roundw
                case rel => exact ⟨k + 1, now, by omega, by omega, by go_num, rfl, ST5⟩
                case measure => simp [intOf]; omega
        · obtain rfl : k = 40 := by omega
          have i1 : ((40 : Nat) : Int) < (ls.length : Int) := by omega
          have HB := Fact.mk hst.out.bel
          clear hst
          go_wp2_with fail
          refine (awk _).mono ?_
          rintro e W6 ⟨rfl, hb6⟩
          have B6 := Fact.mk (HB.out.trans (hb6.mono HB.out.size))
          clear hb6
          go_wp2_with fail
          go_ret
          exact ⟨rfl, B6.out⟩
      · obtain rfl : k = ls.length := by omega
        have HB := Fact.mk hst.out.bel
        clear hst
        go_wp2_with fail
        refine (awk _).mono ?_
        rintro e W6 ⟨rfl, hb6⟩
        have B6 := Fact.mk (HB.out.trans (hb6.mono HB.out.size))
        clear hb6
        go_wp2_with fail
        go_ret
        exact ⟨rfl, B6.out⟩
end Go.Proofs.Ytjanofopmmndoaa

