/- pulses: the walk. -/
import Derived.Test.YtjanofopmmndoaaPulseP
namespace Go.Proofs.Ytjanofopmmndoaa
open Go.RowKit
def oneU16 (x : Int) : List Value := [.int .u16 x]
theorem oneU16_len (x : Int) : (oneU16 x).length = 1 := rfl
theorem Rd.at16 {w : World} {v : Value} {xs : List Int} (h : Rd oneU16 1 w v xs) (i : Nat) (hi : i < xs.length) : ∃ b off c, v = .slice (some ⟨b, off, none⟩) xs.length c ∧ w.cell? ⟨b, off + i, none⟩ = some (.int .u16 xs[i]) := by
  obtain ⟨h0, A, c, rfl, h2, h4, h3⟩ := h
  obtain ⟨b, off, rfl, hc⟩ := h3 (by omega)
  refine ⟨b, off, c, rfl, ?_⟩
  have := hc i hi 0 (.int .u16 xs[i]) rfl
  rwa [show off + i * 1 + 0 = off + i by omega] at this
structure PulSt (w wr : World) (V : Nat) (now began : Int) (was : Bool) (k : Nat) : Prop where
  blk : ∃ g f e, BlkAt wr V (tmB 3 was g f e g) ∧ (g = true → began = f ∧ 0 ≤ f ∧ f ≤ now) ∧ (g = false → f = 0 ∧ began = -1) ∧ 0 ≤ e ∧ e ≤ 4294967295
  bel : Below w.heap.size w wr
  lo : w.heap.size ≤ V
  n1 : 3 ≤ now
  n2 : now ≤ 3 + 65535 * (k : Int)
set_option maxRecDepth 100000 in
set_option maxHeartbeats 16000000 in
theorem pulses_any (xs : List Bool) (ls : List Int) (hls : ∀ x ∈ ls, 0 ≤ x ∧ x ≤ 65535) (vs vl : Value) (p : Int) (p1 : 0 ≤ p) (p2 : p ≤ 4294967295) (w : World) (hr : Rd oneBool 1 w vs xs) (hl : Rd oneU16 1 w vl ls) : Calls Try.prog 22 #[vs, vl, .int .u32 p] w fun e w' => e = .returned (.bool true) ∧ Below w.heap.size w w' := by
  obtain ⟨A, c, rfl, l0⟩ : ∃ A c, vs = .slice A xs.length c ∧ xs.length ≤ 9223372036854775807 := by
    obtain ⟨h0, A, c, e, _⟩ := hr
    exact ⟨A, c, e, h0⟩
  obtain ⟨A2, c2, rfl, l2⟩ : ∃ A c, vl = .slice A ls.length c ∧ ls.length ≤ 9223372036854775807 := by
    obtain ⟨h0, A, c, e, _⟩ := hl
    exact ⟨A, c, e, h0⟩
  have HR := Fact.mk hr
  have HL := Fact.mk hl
  have HLS := Fact.mk hls
  clear hr hl hls
  have n3 := new_any 3 (by decide) (by decide)
  unfold vBlk newB at n3
  go_enter Try.func22, Try.ntmps22
  go_wp2_with fail
  refine (n3 _).mono ?_
  rintro e W1 ⟨rfl, hb1⟩
  clear n3
  obtain ⟨t1, t2, t3⟩ := one_block W1 (.cells #[.int .u8 3, .bool false, .bool false, .bool false, .bool false, .int .i64 0, .int .i64 0, .int .i64 0, .bool false, .bool false] 25)
  have ST : Fact (PulSt w (W1.alloc (.cells #[.int .u8 3, .bool false, .bool false, .bool false, .bool false, .int .i64 0, .int .i64 0, .int .i64 0, .bool false, .bool false] 25)) W1.heap.size 3 (-1) false 0) := ⟨⟨⟨false, 0, 0, t2, (fun h => by cases h), (fun _ => ⟨rfl, rfl⟩), by omega, by omega⟩, hb1.trans (t1.mono hb1.size), hb1.size, by omega, by omega⟩⟩
  clear hb1 t1 t2 t3
  go_wp2_with fail
  go_loopw [9, 10, 11, 12] (fun sn sb sw i wr => ∃ (k : Nat) (now began : Int) (was : Bool), k ≤ xs.length ∧ k ≤ 60 ∧ i = .int .i64 k ∧ sn = .int .i64 now ∧ sb = .int .i64 began ∧ sw = .bool was ∧ Fact (PulSt w wr W1.heap.size now began was k)) (fun _ _ _ i _ => 60 - (intOf i).toNat)
  case atStart => exact ⟨0, 3, -1, false, Nat.zero_le _, Nat.zero_le _, rfl, rfl, rfl, rfl, ST⟩
  case round =>
    obtain ⟨k, now, began, was, hk, hk6, rfl, rfl, rfl, rfl, hst⟩ := hrel
    by_cases hlt : k < xs.length
    · by_cases h60 : k < 60
      · obtain ⟨bi, oi, ci', e, ci⟩ := (HR.out.below hst.out.bel).atBool k hlt
        cases e
        obtain ⟨x, hx⟩ : ∃ x, xs[k] = x := ⟨_, rfl⟩
        have CI : Fact (w.cell? ⟨bi, oi + k, none⟩ = some (.bool x)) := ⟨by obtain ⟨_, _, _, e2, h2⟩ := HR.out.atBool k hlt; cases e2; rw [hx] at h2; exact h2⟩
        rw [hx] at ci
        have i1 : (k : Int) < (xs.length : Int) := by omega
        have i2 : (k : Int) < 60 := by omega
        have w1 := hst.out.n1
        have w2 := hst.out.n2
        have lV : w.heap.size ≤ W1.heap.size := hst.out.lo
        obtain ⟨g, f, e, hblk, hg1, hg2, e1, e2⟩ := hst.out.blk
        have HB := Fact.mk hst.out.bel
        have BK := Fact.mk hblk
        have ht : ∀ z : Bool, (truthI z == 1) = z := fun z => by cases z <;> rfl
        have HT := Fact.mk ht
        clear hx hst ht hblk
        by_cases hll : k < ls.length
        · obtain ⟨bl, ol, cl', el, cl⟩ := (HL.out.below HB.out).at16 k hll
          cases el
          obtain ⟨L, hL⟩ : ∃ L, ls[k] = L := ⟨_, rfl⟩
          have hL0 := HLS.out _ (List.getElem_mem hll)
          rw [hL] at cl hL0
          obtain ⟨L1, L2⟩ := hL0
          have i3 : (k : Int) < (ls.length : Int) := by omega
          clear hL
          cases g with
          | true =>
            obtain ⟨rfl, f1, f2⟩ := hg1 rfl
            clear hg1 hg2
            cases x with
            | true =>
              by_cases ho : p ≤ max ((now + L) - began) 0
              · have hb0 : ¬ began < 0 := by omega
                have hw : decide ((now + L) - began < p) = false := decide_eq_false (by omega)
                have hrun := run_step (q := true) (x := true) ⟨.inr (.inr rfl), by omega, by omega, by omega, by omega, .inl rfl⟩ p1 p2 (by omega : 0 ≤ (now + L)) (by omega : (now + L) ≤ 1125899906842624) (pul_go_over was true began e ho _)
                have jr := lrun_new BK.out hrun (outs_tm ⟨.inr (.inr rfl), by omega, by omega, by omega, by omega, .inr rfl⟩) (by simp)
                have JR := Fact.mk jr
                clear hrun jr
                go_wp2_with fail
                refine JR.out.mono ?_
                rintro e W4 ⟨v2, rfl, rd2, k4, g4, -⟩
                obtain ⟨y0, y1, y2, rfl, yc0, yc1⟩ := rd2.two64
                have b4 : Below w.heap.size w W4 := HB.out.trans (grown_Below g4 HB.out.size lV)
                have ST4 : Fact (PulSt w W4 W1.heap.size (now + L) (-1) true (k + 1)) := ⟨⟨⟨_, _, _, k4, (fun h => by first | exact ⟨rfl, by omega, by omega⟩ | cases h), (fun h => by first | exact ⟨rfl, rfl⟩ | cases h), by omega, by omega⟩, b4, lV, by omega, by omega⟩⟩
                have hc4 : W4.cell? ⟨bi, oi + k, none⟩ = some (.bool true) := cell_below b4 _ _ CI.out
                rw [show truthI false = 0 from rfl] at yc0
                clear g4 k4 rd2 b4 JR ci
                go_wp2_with fail
                go_roundw
                case rel => exact ⟨k + 1, (now + L), (-1), true, by omega, by omega, by go_num, rfl, rfl, rfl, ST4⟩
                case measure => simp [intOf]; omega
              · have hb0 : ¬ began < 0 := by omega
                have hw : decide ((now + L) - began < p) = true := decide_eq_true (by omega)
                have hrun := run_step (q := true) (x := true) ⟨.inr (.inr rfl), by omega, by omega, by omega, by omega, .inl rfl⟩ p1 p2 (by omega : 0 ≤ (now + L)) (by omega : (now + L) ≤ 1125899906842624) (pul_go_on was true began e ho _)
                have jr := lrun_new BK.out hrun (outs_tm ⟨.inr (.inr rfl), by omega, by omega, by omega, by omega, .inl rfl⟩) (by simp)
                have JR := Fact.mk jr
                clear hrun jr
                go_wp2_with fail
                refine JR.out.mono ?_
                rintro e W4 ⟨v2, rfl, rd2, k4, g4, -⟩
                obtain ⟨y0, y1, y2, rfl, yc0, yc1⟩ := rd2.two64
                have b4 : Below w.heap.size w W4 := HB.out.trans (grown_Below g4 HB.out.size lV)
                have ST4 : Fact (PulSt w W4 W1.heap.size (now + L) began true (k + 1)) := ⟨⟨⟨_, _, _, k4, (fun h => by first | exact ⟨rfl, by omega, by omega⟩ | cases h), (fun h => by first | exact ⟨rfl, rfl⟩ | cases h), by omega, by omega⟩, b4, lV, by omega, by omega⟩⟩
                have hc4 : W4.cell? ⟨bi, oi + k, none⟩ = some (.bool true) := cell_below b4 _ _ CI.out
                rw [show truthI true = 1 from rfl] at yc0
                clear g4 k4 rd2 b4 JR ci
                go_wp2_with fail
                go_roundw
                case rel => exact ⟨k + 1, (now + L), began, true, by omega, by omega, by go_num, rfl, rfl, rfl, ST4⟩
                case measure => simp [intOf]; omega
            | false =>
              by_cases ho : p ≤ max ((now + L) - began) 0
              · have hb0 : ¬ began < 0 := by omega
                have hw : decide ((now + L) - began < p) = false := decide_eq_false (by omega)
                have hrun := run_step (q := true) (x := false) ⟨.inr (.inr rfl), by omega, by omega, by omega, by omega, .inl rfl⟩ p1 p2 (by omega : 0 ≤ (now + L)) (by omega : (now + L) ≤ 1125899906842624) (pul_go_over was false began e ho _)
                have jr := lrun_new BK.out hrun (outs_tm ⟨.inr (.inr rfl), by omega, by omega, by omega, by omega, .inr rfl⟩) (by simp)
                have JR := Fact.mk jr
                clear hrun jr
                go_wp2_with fail
                refine JR.out.mono ?_
                rintro e W4 ⟨v2, rfl, rd2, k4, g4, -⟩
                obtain ⟨y0, y1, y2, rfl, yc0, yc1⟩ := rd2.two64
                have b4 : Below w.heap.size w W4 := HB.out.trans (grown_Below g4 HB.out.size lV)
                have ST4 : Fact (PulSt w W4 W1.heap.size (now + L) (-1) false (k + 1)) := ⟨⟨⟨_, _, _, k4, (fun h => by first | exact ⟨rfl, by omega, by omega⟩ | cases h), (fun h => by first | exact ⟨rfl, rfl⟩ | cases h), by omega, by omega⟩, b4, lV, by omega, by omega⟩⟩
                have hc4 : W4.cell? ⟨bi, oi + k, none⟩ = some (.bool false) := cell_below b4 _ _ CI.out
                rw [show truthI false = 0 from rfl] at yc0
                clear g4 k4 rd2 b4 JR ci
                go_wp2_with fail
                go_roundw
                case rel => exact ⟨k + 1, (now + L), (-1), false, by omega, by omega, by go_num, rfl, rfl, rfl, ST4⟩
                case measure => simp [intOf]; omega
              · have hb0 : ¬ began < 0 := by omega
                have hw : decide ((now + L) - began < p) = true := decide_eq_true (by omega)
                have hrun := run_step (q := true) (x := false) ⟨.inr (.inr rfl), by omega, by omega, by omega, by omega, .inl rfl⟩ p1 p2 (by omega : 0 ≤ (now + L)) (by omega : (now + L) ≤ 1125899906842624) (pul_go_on was false began e ho _)
                have jr := lrun_new BK.out hrun (outs_tm ⟨.inr (.inr rfl), by omega, by omega, by omega, by omega, .inl rfl⟩) (by simp)
                have JR := Fact.mk jr
                clear hrun jr
                go_wp2_with fail
                refine JR.out.mono ?_
                rintro e W4 ⟨v2, rfl, rd2, k4, g4, -⟩
                obtain ⟨y0, y1, y2, rfl, yc0, yc1⟩ := rd2.two64
                have b4 : Below w.heap.size w W4 := HB.out.trans (grown_Below g4 HB.out.size lV)
                have ST4 : Fact (PulSt w W4 W1.heap.size (now + L) began false (k + 1)) := ⟨⟨⟨_, _, _, k4, (fun h => by first | exact ⟨rfl, by omega, by omega⟩ | cases h), (fun h => by first | exact ⟨rfl, rfl⟩ | cases h), by omega, by omega⟩, b4, lV, by omega, by omega⟩⟩
                have hc4 : W4.cell? ⟨bi, oi + k, none⟩ = some (.bool false) := cell_below b4 _ _ CI.out
                rw [show truthI true = 1 from rfl] at yc0
                clear g4 k4 rd2 b4 JR ci
                go_wp2_with fail
                go_roundw
                case rel => exact ⟨k + 1, (now + L), began, false, by omega, by omega, by go_num, rfl, rfl, rfl, ST4⟩
                case measure => simp [intOf]; omega
          | false =>
            obtain ⟨rfl, rfl⟩ := hg2 rfl
            clear hg1 hg2
            cases x with
            | true =>
              cases was with
              | true =>
                have hrun := run_step (q := false) (x := true) ⟨.inr (.inr rfl), by omega, by omega, by omega, by omega, .inr rfl⟩ p1 p2 (by omega : 0 ≤ (now + L)) (by omega : (now + L) ≤ 1125899906842624) (pul_idle e p (now + L))
                have jr := lrun_new BK.out hrun (outs_tm ⟨.inr (.inr rfl), by omega, by omega, by omega, by omega, .inr rfl⟩) (by simp)
                have JR := Fact.mk jr
                clear hrun jr
                go_wp2_with fail
                refine JR.out.mono ?_
                rintro e W4 ⟨v2, rfl, rd2, k4, g4, -⟩
                obtain ⟨y0, y1, y2, rfl, yc0, yc1⟩ := rd2.two64
                have b4 : Below w.heap.size w W4 := HB.out.trans (grown_Below g4 HB.out.size lV)
                have ST4 : Fact (PulSt w W4 W1.heap.size (now + L) (-1) true (k + 1)) := ⟨⟨⟨_, _, _, k4, (fun h => by first | exact ⟨rfl, by omega, by omega⟩ | cases h), (fun h => by first | exact ⟨rfl, rfl⟩ | cases h), by omega, by omega⟩, b4, lV, by omega, by omega⟩⟩
                have hc4 : W4.cell? ⟨bi, oi + k, none⟩ = some (.bool true) := cell_below b4 _ _ CI.out
                rw [show truthI false = 0 from rfl] at yc0
                clear g4 k4 rd2 b4 JR ci
                go_wp2_with fail
                go_roundw
                case rel => exact ⟨k + 1, (now + L), (-1), true, by omega, by omega, by go_num, rfl, rfl, rfl, ST4⟩
                case measure => simp [intOf]; omega
              | false =>
                by_cases ho : p ≤ max ((now + L) - (now + L)) 0
                · have hw : decide (0 < p) = false := decide_eq_false (by omega)
                  have hrun := run_step (q := false) (x := true) ⟨.inr (.inr rfl), by omega, by omega, by omega, by omega, .inr rfl⟩ p1 p2 (by omega : 0 ≤ (now + L)) (by omega : (now + L) ≤ 1125899906842624) ((pul_rise e p (now + L)).trans (pul_go_over false true (now + L) e ho false))
                  have jr := lrun_new BK.out hrun (outs_tm ⟨.inr (.inr rfl), by omega, by omega, by omega, by omega, .inr rfl⟩) (by simp)
                  have JR := Fact.mk jr
                  clear hrun jr
                  go_wp2_with fail
                  refine JR.out.mono ?_
                  rintro e W4 ⟨v2, rfl, rd2, k4, g4, -⟩
                  obtain ⟨y0, y1, y2, rfl, yc0, yc1⟩ := rd2.two64
                  have b4 : Below w.heap.size w W4 := HB.out.trans (grown_Below g4 HB.out.size lV)
                  have ST4 : Fact (PulSt w W4 W1.heap.size (now + L) (-1) true (k + 1)) := ⟨⟨⟨_, _, _, k4, (fun h => by first | exact ⟨rfl, by omega, by omega⟩ | cases h), (fun h => by first | exact ⟨rfl, rfl⟩ | cases h), by omega, by omega⟩, b4, lV, by omega, by omega⟩⟩
                  have hc4 : W4.cell? ⟨bi, oi + k, none⟩ = some (.bool true) := cell_below b4 _ _ CI.out
                  rw [show truthI false = 0 from rfl] at yc0
                  clear g4 k4 rd2 b4 JR ci
                  go_wp2_with fail
                  go_roundw
                  case rel => exact ⟨k + 1, (now + L), (-1), true, by omega, by omega, by go_num, rfl, rfl, rfl, ST4⟩
                  case measure => simp [intOf]; omega
                · have hw : decide (0 < p) = true := decide_eq_true (by omega)
                  have hrun := run_step (q := false) (x := true) ⟨.inr (.inr rfl), by omega, by omega, by omega, by omega, .inr rfl⟩ p1 p2 (by omega : 0 ≤ (now + L)) (by omega : (now + L) ≤ 1125899906842624) ((pul_rise e p (now + L)).trans (pul_go_on false true (now + L) e ho false))
                  have jr := lrun_new BK.out hrun (outs_tm ⟨.inr (.inr rfl), by omega, by omega, by omega, by omega, .inl rfl⟩) (by simp)
                  have JR := Fact.mk jr
                  clear hrun jr
                  go_wp2_with fail
                  refine JR.out.mono ?_
                  rintro e W4 ⟨v2, rfl, rd2, k4, g4, -⟩
                  obtain ⟨y0, y1, y2, rfl, yc0, yc1⟩ := rd2.two64
                  have b4 : Below w.heap.size w W4 := HB.out.trans (grown_Below g4 HB.out.size lV)
                  have ST4 : Fact (PulSt w W4 W1.heap.size (now + L) (now + L) true (k + 1)) := ⟨⟨⟨_, _, _, k4, (fun h => by first | exact ⟨rfl, by omega, by omega⟩ | cases h), (fun h => by first | exact ⟨rfl, rfl⟩ | cases h), by omega, by omega⟩, b4, lV, by omega, by omega⟩⟩
                  have hc4 : W4.cell? ⟨bi, oi + k, none⟩ = some (.bool true) := cell_below b4 _ _ CI.out
                  rw [show truthI true = 1 from rfl] at yc0
                  clear g4 k4 rd2 b4 JR ci
                  go_wp2_with fail
                  go_roundw
                  case rel => exact ⟨k + 1, (now + L), (now + L), true, by omega, by omega, by go_num, rfl, rfl, rfl, ST4⟩
                  case measure => simp [intOf]; omega
            | false =>
              have hrun := run_step (q := false) (x := false) ⟨.inr (.inr rfl), by omega, by omega, by omega, by omega, .inr rfl⟩ p1 p2 (by omega : 0 ≤ (now + L)) (by omega : (now + L) ≤ 1125899906842624) (pul_idle0 was e p (now + L))
              have jr := lrun_new BK.out hrun (outs_tm ⟨.inr (.inr rfl), by omega, by omega, by omega, by omega, .inr rfl⟩) (by simp)
              have JR := Fact.mk jr
              clear hrun jr
              go_wp2_with fail
              refine JR.out.mono ?_
              rintro e W4 ⟨v2, rfl, rd2, k4, g4, -⟩
              obtain ⟨y0, y1, y2, rfl, yc0, yc1⟩ := rd2.two64
              have b4 : Below w.heap.size w W4 := HB.out.trans (grown_Below g4 HB.out.size lV)
              have ST4 : Fact (PulSt w W4 W1.heap.size (now + L) (-1) false (k + 1)) := ⟨⟨⟨_, _, _, k4, (fun h => by first | exact ⟨rfl, by omega, by omega⟩ | cases h), (fun h => by first | exact ⟨rfl, rfl⟩ | cases h), by omega, by omega⟩, b4, lV, by omega, by omega⟩⟩
              have hc4 : W4.cell? ⟨bi, oi + k, none⟩ = some (.bool false) := cell_below b4 _ _ CI.out
              rw [show truthI false = 0 from rfl] at yc0
              clear g4 k4 rd2 b4 JR ci
              go_wp2_with fail
              go_roundw
              case rel => exact ⟨k + 1, (now + L), (-1), false, by omega, by omega, by go_num, rfl, rfl, rfl, ST4⟩
              case measure => simp [intOf]; omega
        · have i3 : ¬ (k : Int) < (ls.length : Int) := by omega
          cases g with
          | true =>
            obtain ⟨rfl, f1, f2⟩ := hg1 rfl
            clear hg1 hg2
            cases x with
            | true =>
              by_cases ho : p ≤ max (now - began) 0
              · have hb0 : ¬ began < 0 := by omega
                have hw : decide (now - began < p) = false := decide_eq_false (by omega)
                have hrun := run_step (q := true) (x := true) ⟨.inr (.inr rfl), by omega, by omega, by omega, by omega, .inl rfl⟩ p1 p2 (by omega : 0 ≤ now) (by omega : now ≤ 1125899906842624) (pul_go_over was true began e ho _)
                have jr := lrun_new BK.out hrun (outs_tm ⟨.inr (.inr rfl), by omega, by omega, by omega, by omega, .inr rfl⟩) (by simp)
                have JR := Fact.mk jr
                clear hrun jr
                go_wp2_with fail
                refine JR.out.mono ?_
                rintro e W4 ⟨v2, rfl, rd2, k4, g4, -⟩
                obtain ⟨y0, y1, y2, rfl, yc0, yc1⟩ := rd2.two64
                have b4 : Below w.heap.size w W4 := HB.out.trans (grown_Below g4 HB.out.size lV)
                have ST4 : Fact (PulSt w W4 W1.heap.size now (-1) true (k + 1)) := ⟨⟨⟨_, _, _, k4, (fun h => by first | exact ⟨rfl, by omega, by omega⟩ | cases h), (fun h => by first | exact ⟨rfl, rfl⟩ | cases h), by omega, by omega⟩, b4, lV, by omega, by omega⟩⟩
                have hc4 : W4.cell? ⟨bi, oi + k, none⟩ = some (.bool true) := cell_below b4 _ _ CI.out
                rw [show truthI false = 0 from rfl] at yc0
                clear g4 k4 rd2 b4 JR ci
                go_wp2_with fail
                go_roundw
                case rel => exact ⟨k + 1, now, (-1), true, by omega, by omega, by go_num, rfl, rfl, rfl, ST4⟩
                case measure => simp [intOf]; omega
              · have hb0 : ¬ began < 0 := by omega
                have hw : decide (now - began < p) = true := decide_eq_true (by omega)
                have hrun := run_step (q := true) (x := true) ⟨.inr (.inr rfl), by omega, by omega, by omega, by omega, .inl rfl⟩ p1 p2 (by omega : 0 ≤ now) (by omega : now ≤ 1125899906842624) (pul_go_on was true began e ho _)
                have jr := lrun_new BK.out hrun (outs_tm ⟨.inr (.inr rfl), by omega, by omega, by omega, by omega, .inl rfl⟩) (by simp)
                have JR := Fact.mk jr
                clear hrun jr
                go_wp2_with fail
                refine JR.out.mono ?_
                rintro e W4 ⟨v2, rfl, rd2, k4, g4, -⟩
                obtain ⟨y0, y1, y2, rfl, yc0, yc1⟩ := rd2.two64
                have b4 : Below w.heap.size w W4 := HB.out.trans (grown_Below g4 HB.out.size lV)
                have ST4 : Fact (PulSt w W4 W1.heap.size now began true (k + 1)) := ⟨⟨⟨_, _, _, k4, (fun h => by first | exact ⟨rfl, by omega, by omega⟩ | cases h), (fun h => by first | exact ⟨rfl, rfl⟩ | cases h), by omega, by omega⟩, b4, lV, by omega, by omega⟩⟩
                have hc4 : W4.cell? ⟨bi, oi + k, none⟩ = some (.bool true) := cell_below b4 _ _ CI.out
                rw [show truthI true = 1 from rfl] at yc0
                clear g4 k4 rd2 b4 JR ci
                go_wp2_with fail
                go_roundw
                case rel => exact ⟨k + 1, now, began, true, by omega, by omega, by go_num, rfl, rfl, rfl, ST4⟩
                case measure => simp [intOf]; omega
            | false =>
              by_cases ho : p ≤ max (now - began) 0
              · have hb0 : ¬ began < 0 := by omega
                have hw : decide (now - began < p) = false := decide_eq_false (by omega)
                have hrun := run_step (q := true) (x := false) ⟨.inr (.inr rfl), by omega, by omega, by omega, by omega, .inl rfl⟩ p1 p2 (by omega : 0 ≤ now) (by omega : now ≤ 1125899906842624) (pul_go_over was false began e ho _)
                have jr := lrun_new BK.out hrun (outs_tm ⟨.inr (.inr rfl), by omega, by omega, by omega, by omega, .inr rfl⟩) (by simp)
                have JR := Fact.mk jr
                clear hrun jr
                go_wp2_with fail
                refine JR.out.mono ?_
                rintro e W4 ⟨v2, rfl, rd2, k4, g4, -⟩
                obtain ⟨y0, y1, y2, rfl, yc0, yc1⟩ := rd2.two64
                have b4 : Below w.heap.size w W4 := HB.out.trans (grown_Below g4 HB.out.size lV)
                have ST4 : Fact (PulSt w W4 W1.heap.size now (-1) false (k + 1)) := ⟨⟨⟨_, _, _, k4, (fun h => by first | exact ⟨rfl, by omega, by omega⟩ | cases h), (fun h => by first | exact ⟨rfl, rfl⟩ | cases h), by omega, by omega⟩, b4, lV, by omega, by omega⟩⟩
                have hc4 : W4.cell? ⟨bi, oi + k, none⟩ = some (.bool false) := cell_below b4 _ _ CI.out
                rw [show truthI false = 0 from rfl] at yc0
                clear g4 k4 rd2 b4 JR ci
                go_wp2_with fail
                go_roundw
                case rel => exact ⟨k + 1, now, (-1), false, by omega, by omega, by go_num, rfl, rfl, rfl, ST4⟩
                case measure => simp [intOf]; omega
              · have hb0 : ¬ began < 0 := by omega
                have hw : decide (now - began < p) = true := decide_eq_true (by omega)
                have hrun := run_step (q := true) (x := false) ⟨.inr (.inr rfl), by omega, by omega, by omega, by omega, .inl rfl⟩ p1 p2 (by omega : 0 ≤ now) (by omega : now ≤ 1125899906842624) (pul_go_on was false began e ho _)
                have jr := lrun_new BK.out hrun (outs_tm ⟨.inr (.inr rfl), by omega, by omega, by omega, by omega, .inl rfl⟩) (by simp)
                have JR := Fact.mk jr
                clear hrun jr
                go_wp2_with fail
                refine JR.out.mono ?_
                rintro e W4 ⟨v2, rfl, rd2, k4, g4, -⟩
                obtain ⟨y0, y1, y2, rfl, yc0, yc1⟩ := rd2.two64
                have b4 : Below w.heap.size w W4 := HB.out.trans (grown_Below g4 HB.out.size lV)
                have ST4 : Fact (PulSt w W4 W1.heap.size now began false (k + 1)) := ⟨⟨⟨_, _, _, k4, (fun h => by first | exact ⟨rfl, by omega, by omega⟩ | cases h), (fun h => by first | exact ⟨rfl, rfl⟩ | cases h), by omega, by omega⟩, b4, lV, by omega, by omega⟩⟩
                have hc4 : W4.cell? ⟨bi, oi + k, none⟩ = some (.bool false) := cell_below b4 _ _ CI.out
                rw [show truthI true = 1 from rfl] at yc0
                clear g4 k4 rd2 b4 JR ci
                go_wp2_with fail
                go_roundw
                case rel => exact ⟨k + 1, now, began, false, by omega, by omega, by go_num, rfl, rfl, rfl, ST4⟩
                case measure => simp [intOf]; omega
          | false =>
            obtain ⟨rfl, rfl⟩ := hg2 rfl
            clear hg1 hg2
            cases x with
            | true =>
              cases was with
              | true =>
                have hrun := run_step (q := false) (x := true) ⟨.inr (.inr rfl), by omega, by omega, by omega, by omega, .inr rfl⟩ p1 p2 (by omega : 0 ≤ now) (by omega : now ≤ 1125899906842624) (pul_idle e p now)
                have jr := lrun_new BK.out hrun (outs_tm ⟨.inr (.inr rfl), by omega, by omega, by omega, by omega, .inr rfl⟩) (by simp)
                have JR := Fact.mk jr
                clear hrun jr
                go_wp2_with fail
                refine JR.out.mono ?_
                rintro e W4 ⟨v2, rfl, rd2, k4, g4, -⟩
                obtain ⟨y0, y1, y2, rfl, yc0, yc1⟩ := rd2.two64
                have b4 : Below w.heap.size w W4 := HB.out.trans (grown_Below g4 HB.out.size lV)
                have ST4 : Fact (PulSt w W4 W1.heap.size now (-1) true (k + 1)) := ⟨⟨⟨_, _, _, k4, (fun h => by first | exact ⟨rfl, by omega, by omega⟩ | cases h), (fun h => by first | exact ⟨rfl, rfl⟩ | cases h), by omega, by omega⟩, b4, lV, by omega, by omega⟩⟩
                have hc4 : W4.cell? ⟨bi, oi + k, none⟩ = some (.bool true) := cell_below b4 _ _ CI.out
                rw [show truthI false = 0 from rfl] at yc0
                clear g4 k4 rd2 b4 JR ci
                go_wp2_with fail
                go_roundw
                case rel => exact ⟨k + 1, now, (-1), true, by omega, by omega, by go_num, rfl, rfl, rfl, ST4⟩
                case measure => simp [intOf]; omega
              | false =>
                by_cases ho : p ≤ max (now - now) 0
                · have hw : decide (0 < p) = false := decide_eq_false (by omega)
                  have hrun := run_step (q := false) (x := true) ⟨.inr (.inr rfl), by omega, by omega, by omega, by omega, .inr rfl⟩ p1 p2 (by omega : 0 ≤ now) (by omega : now ≤ 1125899906842624) ((pul_rise e p now).trans (pul_go_over false true now e ho false))
                  have jr := lrun_new BK.out hrun (outs_tm ⟨.inr (.inr rfl), by omega, by omega, by omega, by omega, .inr rfl⟩) (by simp)
                  have JR := Fact.mk jr
                  clear hrun jr
                  go_wp2_with fail
                  refine JR.out.mono ?_
                  rintro e W4 ⟨v2, rfl, rd2, k4, g4, -⟩
                  obtain ⟨y0, y1, y2, rfl, yc0, yc1⟩ := rd2.two64
                  have b4 : Below w.heap.size w W4 := HB.out.trans (grown_Below g4 HB.out.size lV)
                  have ST4 : Fact (PulSt w W4 W1.heap.size now (-1) true (k + 1)) := ⟨⟨⟨_, _, _, k4, (fun h => by first | exact ⟨rfl, by omega, by omega⟩ | cases h), (fun h => by first | exact ⟨rfl, rfl⟩ | cases h), by omega, by omega⟩, b4, lV, by omega, by omega⟩⟩
                  have hc4 : W4.cell? ⟨bi, oi + k, none⟩ = some (.bool true) := cell_below b4 _ _ CI.out
                  rw [show truthI false = 0 from rfl] at yc0
                  clear g4 k4 rd2 b4 JR ci
                  go_wp2_with fail
                  go_roundw
                  case rel => exact ⟨k + 1, now, (-1), true, by omega, by omega, by go_num, rfl, rfl, rfl, ST4⟩
                  case measure => simp [intOf]; omega
                · have hw : decide (0 < p) = true := decide_eq_true (by omega)
                  have hrun := run_step (q := false) (x := true) ⟨.inr (.inr rfl), by omega, by omega, by omega, by omega, .inr rfl⟩ p1 p2 (by omega : 0 ≤ now) (by omega : now ≤ 1125899906842624) ((pul_rise e p now).trans (pul_go_on false true now e ho false))
                  have jr := lrun_new BK.out hrun (outs_tm ⟨.inr (.inr rfl), by omega, by omega, by omega, by omega, .inl rfl⟩) (by simp)
                  have JR := Fact.mk jr
                  clear hrun jr
                  go_wp2_with fail
                  refine JR.out.mono ?_
                  rintro e W4 ⟨v2, rfl, rd2, k4, g4, -⟩
                  obtain ⟨y0, y1, y2, rfl, yc0, yc1⟩ := rd2.two64
                  have b4 : Below w.heap.size w W4 := HB.out.trans (grown_Below g4 HB.out.size lV)
                  have ST4 : Fact (PulSt w W4 W1.heap.size now now true (k + 1)) := ⟨⟨⟨_, _, _, k4, (fun h => by first | exact ⟨rfl, by omega, by omega⟩ | cases h), (fun h => by first | exact ⟨rfl, rfl⟩ | cases h), by omega, by omega⟩, b4, lV, by omega, by omega⟩⟩
                  have hc4 : W4.cell? ⟨bi, oi + k, none⟩ = some (.bool true) := cell_below b4 _ _ CI.out
                  rw [show truthI true = 1 from rfl] at yc0
                  clear g4 k4 rd2 b4 JR ci
                  go_wp2_with fail
                  go_roundw
                  case rel => exact ⟨k + 1, now, now, true, by omega, by omega, by go_num, rfl, rfl, rfl, ST4⟩
                  case measure => simp [intOf]; omega
            | false =>
              have hrun := run_step (q := false) (x := false) ⟨.inr (.inr rfl), by omega, by omega, by omega, by omega, .inr rfl⟩ p1 p2 (by omega : 0 ≤ now) (by omega : now ≤ 1125899906842624) (pul_idle0 was e p now)
              have jr := lrun_new BK.out hrun (outs_tm ⟨.inr (.inr rfl), by omega, by omega, by omega, by omega, .inr rfl⟩) (by simp)
              have JR := Fact.mk jr
              clear hrun jr
              go_wp2_with fail
              refine JR.out.mono ?_
              rintro e W4 ⟨v2, rfl, rd2, k4, g4, -⟩
              obtain ⟨y0, y1, y2, rfl, yc0, yc1⟩ := rd2.two64
              have b4 : Below w.heap.size w W4 := HB.out.trans (grown_Below g4 HB.out.size lV)
              have ST4 : Fact (PulSt w W4 W1.heap.size now (-1) false (k + 1)) := ⟨⟨⟨_, _, _, k4, (fun h => by first | exact ⟨rfl, by omega, by omega⟩ | cases h), (fun h => by first | exact ⟨rfl, rfl⟩ | cases h), by omega, by omega⟩, b4, lV, by omega, by omega⟩⟩
              have hc4 : W4.cell? ⟨bi, oi + k, none⟩ = some (.bool false) := cell_below b4 _ _ CI.out
              rw [show truthI false = 0 from rfl] at yc0
              clear g4 k4 rd2 b4 JR ci
              go_wp2_with fail
              go_roundw
              case rel => exact ⟨k + 1, now, (-1), false, by omega, by omega, by go_num, rfl, rfl, rfl, ST4⟩
              case measure => simp [intOf]; omega
      · obtain rfl : k = 60 := by omega
        have i1 : ((60 : Nat) : Int) < (xs.length : Int) := by omega
        have HB := Fact.mk hst.out.bel
        clear hst
        go_wp2_with fail
        go_ret
        exact ⟨rfl, HB.out⟩
    · obtain rfl : k = xs.length := by omega
      have HB := Fact.mk hst.out.bel
      clear hst
      go_wp2_with fail
      go_ret
      exact ⟨rfl, HB.out⟩
end Go.Proofs.Ytjanofopmmndoaa
