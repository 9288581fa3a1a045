/- What an instruction makes of a scan machine: contract of machine.step. Printed by gen_step.py. -/
import Derived.Test.YtiogpainajokkaaJnsM
import Derived.Test.YtiogpainajokkaaRns
import Derived.Test.YtiogpainajokkaaStp
namespace Go.Proofs.Ytiogpainajokkaa
open Go.RowKit
set_option maxHeartbeats 2000000 in
set_option maxRecDepth 100000 in
theorem step_17 (w0 w : World) (X : Nat) (c : GCode) (vs bs is : Value) (now : Int) (m : GMach) (V B S : Value) (h : MSt w0 w X c vs bs is now m V B S) (hl : m.st.length ≤ 900) (ha : m.at_ ≤ 100000) (hn : m.steps ≤ 100000) (t a n : Int) (s : List Int) (x : Int) (hs : m.st = s ++ [x]) :
    Calls Try.prog 48 #[.pointer (some ⟨X, 0, none⟩), .agg #[.int .u8 17, .int .u8 t, .int .i64 a, .int .i64 n]] w (StPost1 w0 X c vs bs is now ⟨m.s, s, m.at_ + 1, m.steps + 1⟩ V B (.tuple #[])) := by
  obtain ⟨-, -, -, -, -, -, -, c7, c8, -, -, -, -, -, -, -, -, f7, f8, -⟩ := row10 h.row
  have lX := h.lt
  obtain ⟨b1, r1, z1⟩ := one_block ((w.setCell ⟨X, 8, none⟩ (.int .i64 ((m.steps : Int) + 1))).setCell ⟨X, 7, none⟩ (.int .i64 ((m.at_ : Int) + 1))) (.cells #[.int .u8 17, .int .u8 t, .int .i64 a, .int .i64 n] 49)
  have MT := Fact.mk (h.tick.below b1)
  simp only [World.size_setCell] at r1 b1 z1
  have R1 := Fact.mk r1
  have Z1 := Fact.mk z1
  have HJ := Fact.mk (fun W S (hm : MSt w0 W X c vs bs is now ⟨m.s, m.st, m.at_ + 1, m.steps + 1⟩ V B S) => joins_no w0 W X c vs bs is now _ V B S hm 17 t a n rfl)
  clear h b1 r1 z1
  go_enter Try.func48, Try.ntmps48
  go_upto_region 3 with (fail)
  generalize ((w.setCell ⟨X, 8, none⟩ (.int .i64 ((m.steps : Int) + 1))).setCell ⟨X, 7, none⟩ (.int .i64 ((m.at_ : Int) + 1))).alloc (.cells #[.int .u8 17, .int .u8 t, .int .i64 a, .int .i64 n] 49) = w2 at *
  have L1 : w.heap.size < w2.heap.size := by rw [Z1.out]; omega
  have k0 : w2.cell? ⟨w.heap.size, 0, none⟩ = some (.int .u8 17) := by rw [cell_of_row _ _ 0 _ _ _ R1.out]; rfl
  have k1 : w2.cell? ⟨w.heap.size, 1, none⟩ = some (.int .u8 t) := by rw [cell_of_row _ _ 1 _ _ _ R1.out]; rfl
  have k2 : w2.cell? ⟨w.heap.size, 2, none⟩ = some (.int .i64 a) := by rw [cell_of_row _ _ 2 _ _ _ R1.out]; rfl
  have k3 : w2.cell? ⟨w.heap.size, 3, none⟩ = some (.int .i64 n) := by rw [cell_of_row _ _ 3 _ _ _ R1.out]; rfl
  go_wp2_with fail
  refine (HJ.out _ _ MT.out).mono ?_
  rintro e W3 ⟨rfl, hb⟩
  have M3 := Fact.mk (MT.out.below hb)
  have R3 := Fact.mk ((hb.block w.heap.size L1).trans R1.out)
  have L3 : w.heap.size < W3.heap.size := Nat.lt_of_lt_of_le L1 hb.size
  have lX3 := M3.out.lt
  replace k0 := cell_below hb _ _ k0
  replace k1 := cell_below hb _ _ k1
  replace k2 := cell_below hb _ _ k2
  replace k3 := cell_below hb _ _ k3
  clear hb MT R1 Z1 HJ L1 c7 c8 f7 f8 lX
  have HQ := Fact.mk (fun W S (hm : MSt w0 W X c vs bs is now ⟨m.s, m.st, m.at_ + 1, m.steps + 1⟩ V B S) => pop_any w0 W X c vs bs is now _ V B S hm (by show m.st.length ≤ 1000; omega) s x hs)
  have HS := Fact.mk (show s.length ≤ 900 by have := congrArg List.length hs; simp at this; omega)
  go_wp2_with fail
  refine (HQ.out _ _ M3.out).mono ?_
  rintro e W4 ⟨rfl, S4, m4, -⟩
  go_wp2
  go_end0
  exact ⟨rfl, S4, m4⟩
set_option maxHeartbeats 2000000 in
set_option maxRecDepth 100000 in
theorem step_18 (w0 w : World) (X : Nat) (c : GCode) (vs bs is : Value) (now : Int) (m : GMach) (V B S : Value) (h : MSt w0 w X c vs bs is now m V B S) (_ : m.st.length ≤ 900) (ha : m.at_ ≤ 100000) (hn : m.steps ≤ 100000) (t n : Int) (k : Nat) :
    Calls Try.prog 48 #[.pointer (some ⟨X, 0, none⟩), .agg #[.int .u8 18, .int .u8 t, .int .i64 k, .int .i64 n]] w (StPost1 w0 X c vs bs is now ⟨m.s, m.st, k, m.steps + 1⟩ V B (.tuple #[])) := by
  obtain ⟨-, -, -, -, -, -, -, c7, c8, -, -, -, -, -, -, -, -, f7, f8, -⟩ := row10 h.row
  have lX := h.lt
  obtain ⟨b1, r1, z1⟩ := one_block ((w.setCell ⟨X, 8, none⟩ (.int .i64 ((m.steps : Int) + 1))).setCell ⟨X, 7, none⟩ (.int .i64 ((m.at_ : Int) + 1))) (.cells #[.int .u8 18, .int .u8 t, .int .i64 k, .int .i64 n] 49)
  have MT := Fact.mk (h.tick.below b1)
  simp only [World.size_setCell] at r1 b1 z1
  have R1 := Fact.mk r1
  have Z1 := Fact.mk z1
  have HJ := Fact.mk (fun W S (hm : MSt w0 W X c vs bs is now ⟨m.s, m.st, m.at_ + 1, m.steps + 1⟩ V B S) => joins_no w0 W X c vs bs is now _ V B S hm 18 t k n rfl)
  clear h b1 r1 z1
  go_enter Try.func48, Try.ntmps48
  go_upto_region 3 with (fail)
  generalize ((w.setCell ⟨X, 8, none⟩ (.int .i64 ((m.steps : Int) + 1))).setCell ⟨X, 7, none⟩ (.int .i64 ((m.at_ : Int) + 1))).alloc (.cells #[.int .u8 18, .int .u8 t, .int .i64 k, .int .i64 n] 49) = w2 at *
  have L1 : w.heap.size < w2.heap.size := by rw [Z1.out]; omega
  have k0 : w2.cell? ⟨w.heap.size, 0, none⟩ = some (.int .u8 18) := by rw [cell_of_row _ _ 0 _ _ _ R1.out]; rfl
  have k1 : w2.cell? ⟨w.heap.size, 1, none⟩ = some (.int .u8 t) := by rw [cell_of_row _ _ 1 _ _ _ R1.out]; rfl
  have k2 : w2.cell? ⟨w.heap.size, 2, none⟩ = some (.int .i64 k) := by rw [cell_of_row _ _ 2 _ _ _ R1.out]; rfl
  have k3 : w2.cell? ⟨w.heap.size, 3, none⟩ = some (.int .i64 n) := by rw [cell_of_row _ _ 3 _ _ _ R1.out]; rfl
  go_wp2_with fail
  refine (HJ.out _ _ MT.out).mono ?_
  rintro e W3 ⟨rfl, hb⟩
  have M3 := Fact.mk (MT.out.below hb)
  have R3 := Fact.mk ((hb.block w.heap.size L1).trans R1.out)
  have L3 : w.heap.size < W3.heap.size := Nat.lt_of_lt_of_le L1 hb.size
  have lX3 := M3.out.lt
  replace k0 := cell_below hb _ _ k0
  replace k1 := cell_below hb _ _ k1
  replace k2 := cell_below hb _ _ k2
  replace k3 := cell_below hb _ _ k3
  clear hb MT R1 Z1 HJ L1 c7 c8 f7 f8 lX
  have cV : W3.cell? ⟨X, 4, none⟩ = some V := by rw [cell_of_row _ _ 4 _ _ _ M3.out.row]; rfl
  have cB : W3.cell? ⟨X, 5, none⟩ = some B := by rw [cell_of_row _ _ 5 _ _ _ M3.out.row]; rfl
  have cS : W3.cell? ⟨X, 6, none⟩ = some S := by rw [cell_of_row _ _ 6 _ _ _ M3.out.row]; rfl
  have d7 : W3.frozen? ⟨X, 7, none⟩ = false := frozen_of_row _ _ _ _ _ M3.out.row
  have c7 : W3.cell? ⟨X, 7, none⟩ = some (.int .i64 ((m.at_ + 1 : Nat) : Int)) := cell_of_row _ _ 7 _ _ _ M3.out.row
  have M4 := Fact.mk (M3.out.goto k)
  go_wp2
  go_end0
  exact ⟨rfl, S, M4.out⟩
set_option maxHeartbeats 2000000 in
set_option maxRecDepth 100000 in
theorem step_19a (w0 w : World) (X : Nat) (c : GCode) (vs bs is : Value) (now : Int) (m : GMach) (V B S : Value) (h : MSt w0 w X c vs bs is now m V B S) (hl : m.st.length ≤ 900) (ha : m.at_ ≤ 100000) (hn : m.steps ≤ 100000) (t n : Int) (k : Nat) (s : List Int) (hs : m.st = s ++ [0]) :
    Calls Try.prog 48 #[.pointer (some ⟨X, 0, none⟩), .agg #[.int .u8 19, .int .u8 t, .int .i64 k, .int .i64 n]] w (StPost1 w0 X c vs bs is now ⟨m.s, s, k, m.steps + 1⟩ V B (.tuple #[])) := by
  obtain ⟨-, -, -, -, -, -, -, c7, c8, -, -, -, -, -, -, -, -, f7, f8, -⟩ := row10 h.row
  have lX := h.lt
  obtain ⟨b1, r1, z1⟩ := one_block ((w.setCell ⟨X, 8, none⟩ (.int .i64 ((m.steps : Int) + 1))).setCell ⟨X, 7, none⟩ (.int .i64 ((m.at_ : Int) + 1))) (.cells #[.int .u8 19, .int .u8 t, .int .i64 k, .int .i64 n] 49)
  have MT := Fact.mk (h.tick.below b1)
  simp only [World.size_setCell] at r1 b1 z1
  have R1 := Fact.mk r1
  have Z1 := Fact.mk z1
  have HJ := Fact.mk (fun W S (hm : MSt w0 W X c vs bs is now ⟨m.s, m.st, m.at_ + 1, m.steps + 1⟩ V B S) => joins_no w0 W X c vs bs is now _ V B S hm 19 t k n rfl)
  clear h b1 r1 z1
  go_enter Try.func48, Try.ntmps48
  go_upto_region 3 with (fail)
  generalize ((w.setCell ⟨X, 8, none⟩ (.int .i64 ((m.steps : Int) + 1))).setCell ⟨X, 7, none⟩ (.int .i64 ((m.at_ : Int) + 1))).alloc (.cells #[.int .u8 19, .int .u8 t, .int .i64 k, .int .i64 n] 49) = w2 at *
  have L1 : w.heap.size < w2.heap.size := by rw [Z1.out]; omega
  have k0 : w2.cell? ⟨w.heap.size, 0, none⟩ = some (.int .u8 19) := by rw [cell_of_row _ _ 0 _ _ _ R1.out]; rfl
  have k1 : w2.cell? ⟨w.heap.size, 1, none⟩ = some (.int .u8 t) := by rw [cell_of_row _ _ 1 _ _ _ R1.out]; rfl
  have k2 : w2.cell? ⟨w.heap.size, 2, none⟩ = some (.int .i64 k) := by rw [cell_of_row _ _ 2 _ _ _ R1.out]; rfl
  have k3 : w2.cell? ⟨w.heap.size, 3, none⟩ = some (.int .i64 n) := by rw [cell_of_row _ _ 3 _ _ _ R1.out]; rfl
  go_wp2_with fail
  refine (HJ.out _ _ MT.out).mono ?_
  rintro e W3 ⟨rfl, hb⟩
  have M3 := Fact.mk (MT.out.below hb)
  have R3 := Fact.mk ((hb.block w.heap.size L1).trans R1.out)
  have L3 : w.heap.size < W3.heap.size := Nat.lt_of_lt_of_le L1 hb.size
  have lX3 := M3.out.lt
  replace k0 := cell_below hb _ _ k0
  replace k1 := cell_below hb _ _ k1
  replace k2 := cell_below hb _ _ k2
  replace k3 := cell_below hb _ _ k3
  clear hb MT R1 Z1 HJ L1 c7 c8 f7 f8 lX
  have HQ := Fact.mk (fun W S (hm : MSt w0 W X c vs bs is now ⟨m.s, m.st, m.at_ + 1, m.steps + 1⟩ V B S) => pop_any w0 W X c vs bs is now _ V B S hm (by show m.st.length ≤ 1000; omega) s 0 hs)
  have HS := Fact.mk (show s.length ≤ 900 by have := congrArg List.length hs; simp at this; omega)
  go_wp2_with fail
  refine (HQ.out _ _ M3.out).mono ?_
  rintro e W4 ⟨rfl, S4, m4, kp4⟩
  have j2 : W4.cell? ⟨w.heap.size, 2, none⟩ = some (.int .i64 (k : Int)) := cell_of_row _ _ 2 _ _ _ (kp4.2 _ _ _ R3.out (by decide) (by decide))
  have d7 : W4.frozen? ⟨X, 7, none⟩ = false := frozen_of_row _ _ _ _ _ m4.row
  have c7 : W4.cell? ⟨X, 7, none⟩ = some (.int .i64 ((m.at_ + 1 : Nat) : Int)) := cell_of_row _ _ 7 _ _ _ m4.row
  have l4 := m4.lt
  have M5 := Fact.mk (m4.goto k)
  clear m4 kp4
  go_wp2
  go_end0
  exact ⟨rfl, S4, M5.out⟩
set_option maxHeartbeats 2000000 in
set_option maxRecDepth 100000 in
theorem step_19b (w0 w : World) (X : Nat) (c : GCode) (vs bs is : Value) (now : Int) (m : GMach) (V B S : Value) (h : MSt w0 w X c vs bs is now m V B S) (hl : m.st.length ≤ 900) (ha : m.at_ ≤ 100000) (hn : m.steps ≤ 100000) (t a n : Int) (s : List Int) (x : Int) (hs : m.st = s ++ [x]) (hx : x ≠ 0) :
    Calls Try.prog 48 #[.pointer (some ⟨X, 0, none⟩), .agg #[.int .u8 19, .int .u8 t, .int .i64 a, .int .i64 n]] w (StPost1 w0 X c vs bs is now ⟨m.s, s, m.at_ + 1, m.steps + 1⟩ V B (.tuple #[])) := by
  obtain ⟨-, -, -, -, -, -, -, c7, c8, -, -, -, -, -, -, -, -, f7, f8, -⟩ := row10 h.row
  have lX := h.lt
  obtain ⟨b1, r1, z1⟩ := one_block ((w.setCell ⟨X, 8, none⟩ (.int .i64 ((m.steps : Int) + 1))).setCell ⟨X, 7, none⟩ (.int .i64 ((m.at_ : Int) + 1))) (.cells #[.int .u8 19, .int .u8 t, .int .i64 a, .int .i64 n] 49)
  have MT := Fact.mk (h.tick.below b1)
  simp only [World.size_setCell] at r1 b1 z1
  have R1 := Fact.mk r1
  have Z1 := Fact.mk z1
  have HJ := Fact.mk (fun W S (hm : MSt w0 W X c vs bs is now ⟨m.s, m.st, m.at_ + 1, m.steps + 1⟩ V B S) => joins_no w0 W X c vs bs is now _ V B S hm 19 t a n rfl)
  clear h b1 r1 z1
  go_enter Try.func48, Try.ntmps48
  go_upto_region 3 with (fail)
  generalize ((w.setCell ⟨X, 8, none⟩ (.int .i64 ((m.steps : Int) + 1))).setCell ⟨X, 7, none⟩ (.int .i64 ((m.at_ : Int) + 1))).alloc (.cells #[.int .u8 19, .int .u8 t, .int .i64 a, .int .i64 n] 49) = w2 at *
  have L1 : w.heap.size < w2.heap.size := by rw [Z1.out]; omega
  have k0 : w2.cell? ⟨w.heap.size, 0, none⟩ = some (.int .u8 19) := by rw [cell_of_row _ _ 0 _ _ _ R1.out]; rfl
  have k1 : w2.cell? ⟨w.heap.size, 1, none⟩ = some (.int .u8 t) := by rw [cell_of_row _ _ 1 _ _ _ R1.out]; rfl
  have k2 : w2.cell? ⟨w.heap.size, 2, none⟩ = some (.int .i64 a) := by rw [cell_of_row _ _ 2 _ _ _ R1.out]; rfl
  have k3 : w2.cell? ⟨w.heap.size, 3, none⟩ = some (.int .i64 n) := by rw [cell_of_row _ _ 3 _ _ _ R1.out]; rfl
  go_wp2_with fail
  refine (HJ.out _ _ MT.out).mono ?_
  rintro e W3 ⟨rfl, hb⟩
  have M3 := Fact.mk (MT.out.below hb)
  have R3 := Fact.mk ((hb.block w.heap.size L1).trans R1.out)
  have L3 : w.heap.size < W3.heap.size := Nat.lt_of_lt_of_le L1 hb.size
  have lX3 := M3.out.lt
  replace k0 := cell_below hb _ _ k0
  replace k1 := cell_below hb _ _ k1
  replace k2 := cell_below hb _ _ k2
  replace k3 := cell_below hb _ _ k3
  clear hb MT R1 Z1 HJ L1 c7 c8 f7 f8 lX
  have HQ := Fact.mk (fun W S (hm : MSt w0 W X c vs bs is now ⟨m.s, m.st, m.at_ + 1, m.steps + 1⟩ V B S) => pop_any w0 W X c vs bs is now _ V B S hm (by show m.st.length ≤ 1000; omega) s x hs)
  have HS := Fact.mk (show s.length ≤ 900 by have := congrArg List.length hs; simp at this; omega)
  have h0 : (x == 0) = false := beq_eq_false_iff_ne.2 hx
  go_wp2_with fail
  refine (HQ.out _ _ M3.out).mono ?_
  rintro e W4 ⟨rfl, S4, m4, -⟩
  go_wp2
  go_end0
  exact ⟨rfl, S4, m4⟩
set_option maxHeartbeats 2000000 in
set_option maxRecDepth 100000 in
theorem step_20 (w0 w : World) (X : Nat) (c : GCode) (vs bs is : Value) (now : Int) (m : GMach) (V B S : Value) (h : MSt w0 w X c vs bs is now m V B S) (hl : m.st.length ≤ 900) (ha : m.at_ ≤ 100000) (hn : m.steps ≤ 100000) (t n : Int) (k : Nat) (hk : k < m.s.blocks.length) (hkb : k < c.blocks.length) (b b' : GBlock) (hb0 : m.s.blocks.getD k (newB 0) = b) (s0 s1 : List Int) (hs : m.st = s0 ++ s1) (hp : s1.length = (pinsIn (c.blocks.getD k 0)).length) (h1 : 0 < s1.length) (hr : (runB b s1 now).1 = b') :
    Calls Try.prog 48 #[.pointer (some ⟨X, 0, none⟩), .agg #[.int .u8 20, .int .u8 t, .int .i64 (k : Int), .int .i64 n]] w (StPost1 w0 X c vs bs is now ⟨⟨m.s.vars, m.s.blocks.set k b'⟩, s0, m.at_ + 1, m.steps + 1⟩ V B (.tuple #[])) := by
  obtain ⟨-, -, -, -, -, -, -, c7, c8, -, -, -, -, -, -, -, -, f7, f8, -⟩ := row10 h.row
  have lX := h.lt
  obtain ⟨b1, r1, z1⟩ := one_block ((w.setCell ⟨X, 8, none⟩ (.int .i64 ((m.steps : Int) + 1))).setCell ⟨X, 7, none⟩ (.int .i64 ((m.at_ : Int) + 1))) (.cells #[.int .u8 20, .int .u8 t, .int .i64 (k : Int), .int .i64 n] 49)
  have MT := Fact.mk (h.tick.below b1)
  simp only [World.size_setCell] at r1 b1 z1
  have R1 := Fact.mk r1
  have Z1 := Fact.mk z1
  have HJ := Fact.mk (fun W S (hm : MSt w0 W X c vs bs is now ⟨m.s, m.st, m.at_ + 1, m.steps + 1⟩ V B S) => joins_no w0 W X c vs bs is now _ V B S hm 20 t (k : Int) n rfl)
  clear h b1 r1 z1
  go_enter Try.func48, Try.ntmps48
  go_upto_region 3 with (fail)
  generalize ((w.setCell ⟨X, 8, none⟩ (.int .i64 ((m.steps : Int) + 1))).setCell ⟨X, 7, none⟩ (.int .i64 ((m.at_ : Int) + 1))).alloc (.cells #[.int .u8 20, .int .u8 t, .int .i64 (k : Int), .int .i64 n] 49) = w2 at *
  have L1 : w.heap.size < w2.heap.size := by rw [Z1.out]; omega
  have k0 : w2.cell? ⟨w.heap.size, 0, none⟩ = some (.int .u8 20) := by rw [cell_of_row _ _ 0 _ _ _ R1.out]; rfl
  have k1 : w2.cell? ⟨w.heap.size, 1, none⟩ = some (.int .u8 t) := by rw [cell_of_row _ _ 1 _ _ _ R1.out]; rfl
  have k2 : w2.cell? ⟨w.heap.size, 2, none⟩ = some (.int .i64 (k : Int)) := by rw [cell_of_row _ _ 2 _ _ _ R1.out]; rfl
  have k3 : w2.cell? ⟨w.heap.size, 3, none⟩ = some (.int .i64 n) := by rw [cell_of_row _ _ 3 _ _ _ R1.out]; rfl
  go_wp2_with fail
  refine (HJ.out _ _ MT.out).mono ?_
  rintro e W3 ⟨rfl, hb⟩
  have M3 := Fact.mk (MT.out.below hb)
  have R3 := Fact.mk ((hb.block w.heap.size L1).trans R1.out)
  have L3 : w.heap.size < W3.heap.size := Nat.lt_of_lt_of_le L1 hb.size
  have lX3 := M3.out.lt
  replace k0 := cell_below hb _ _ k0
  replace k1 := cell_below hb _ _ k1
  replace k2 := cell_below hb _ _ k2
  replace k3 := cell_below hb _ _ k3
  clear hb MT R1 Z1 HJ L1 c7 c8 f7 f8 lX
  have RN := Fact.mk (fun W (hm : MSt w0 W X c vs bs is now ⟨m.s, m.st, m.at_ + 1, m.steps + 1⟩ V B S) => runs_any w0 W X c vs bs is now _ V B S hm (by show m.st.length ≤ 900; exact hl) t n k hk hkb b b' hb0 s0 s1 hs hp h1 hr)
  clear hb0 hs hp h1 hr hk hkb
  go_wp2_with fail
  refine (RN.out _ M3.out).mono ?_
  rintro e W4 ⟨rfl, S4, m4⟩
  go_wp2
  go_end0
  exact ⟨rfl, S4, m4⟩
set_option maxHeartbeats 2000000 in
set_option maxRecDepth 100000 in
theorem step_21 (w0 w : World) (X : Nat) (c : GCode) (vs bs is : Value) (now : Int) (m : GMach) (V B S : Value) (h : MSt w0 w X c vs bs is now m V B S) (hl : m.st.length ≤ 900) (ha : m.at_ ≤ 100000) (hn : m.steps ≤ 100000) (t : Int) (k : Nat) (hk : k < m.s.blocks.length) (j : Nat) (b : GBlock) (hb0 : m.s.blocks.getD k (newB 0) = b) (hj : j < (outsB b).length) (x : Int) (hx : (outsB b).getD j 0 = x) :
    Calls Try.prog 48 #[.pointer (some ⟨X, 0, none⟩), .agg #[.int .u8 21, .int .u8 t, .int .i64 (k : Int), .int .i64 (j : Int)]] w (StPost1 w0 X c vs bs is now ⟨m.s, m.st ++ [x], m.at_ + 1, m.steps + 1⟩ V B (.tuple #[])) := by
  obtain ⟨-, -, -, -, -, -, -, c7, c8, -, -, -, -, -, -, -, -, f7, f8, -⟩ := row10 h.row
  have lX := h.lt
  obtain ⟨b1, r1, z1⟩ := one_block ((w.setCell ⟨X, 8, none⟩ (.int .i64 ((m.steps : Int) + 1))).setCell ⟨X, 7, none⟩ (.int .i64 ((m.at_ : Int) + 1))) (.cells #[.int .u8 21, .int .u8 t, .int .i64 (k : Int), .int .i64 (j : Int)] 49)
  have MT := Fact.mk (h.tick.below b1)
  simp only [World.size_setCell] at r1 b1 z1
  have R1 := Fact.mk r1
  have Z1 := Fact.mk z1
  have HJ := Fact.mk (fun W S (hm : MSt w0 W X c vs bs is now ⟨m.s, m.st, m.at_ + 1, m.steps + 1⟩ V B S) => joins_no w0 W X c vs bs is now _ V B S hm 21 t (k : Int) (j : Int) rfl)
  clear h b1 r1 z1
  go_enter Try.func48, Try.ntmps48
  go_upto_region 3 with (fail)
  generalize ((w.setCell ⟨X, 8, none⟩ (.int .i64 ((m.steps : Int) + 1))).setCell ⟨X, 7, none⟩ (.int .i64 ((m.at_ : Int) + 1))).alloc (.cells #[.int .u8 21, .int .u8 t, .int .i64 (k : Int), .int .i64 (j : Int)] 49) = w2 at *
  have L1 : w.heap.size < w2.heap.size := by rw [Z1.out]; omega
  have k0 : w2.cell? ⟨w.heap.size, 0, none⟩ = some (.int .u8 21) := by rw [cell_of_row _ _ 0 _ _ _ R1.out]; rfl
  have k1 : w2.cell? ⟨w.heap.size, 1, none⟩ = some (.int .u8 t) := by rw [cell_of_row _ _ 1 _ _ _ R1.out]; rfl
  have k2 : w2.cell? ⟨w.heap.size, 2, none⟩ = some (.int .i64 (k : Int)) := by rw [cell_of_row _ _ 2 _ _ _ R1.out]; rfl
  have k3 : w2.cell? ⟨w.heap.size, 3, none⟩ = some (.int .i64 (j : Int)) := by rw [cell_of_row _ _ 3 _ _ _ R1.out]; rfl
  go_wp2_with fail
  refine (HJ.out _ _ MT.out).mono ?_
  rintro e W3 ⟨rfl, hb⟩
  have M3 := Fact.mk (MT.out.below hb)
  have R3 := Fact.mk ((hb.block w.heap.size L1).trans R1.out)
  have L3 : w.heap.size < W3.heap.size := Nat.lt_of_lt_of_le L1 hb.size
  have lX3 := M3.out.lt
  replace k0 := cell_below hb _ _ k0
  replace k1 := cell_below hb _ _ k1
  replace k2 := cell_below hb _ _ k2
  replace k3 := cell_below hb _ _ k3
  clear hb MT R1 Z1 HJ L1 c7 c8 f7 f8 lX
  have HX := Fact.mk hx
  have HJ2 := Fact.mk hj
  have OB := Fact.mk (fun W => outs_any b W)
  unfold vBlk at OB
  clear hx
  have HS := Fact.mk hl
  have HP := Fact.mk (fun W S v (hm : MSt w0 W X c vs bs is now ⟨m.s, m.st, m.at_ + 1, m.steps + 1⟩ V B S) => push_any w0 W X c vs bs is now _ V B S hm (by have := HS.out; show (m.st).length ≤ 1000; omega) v)
  obtain ⟨g, q, cs, rfl, hg, hX, hc, -⟩ := M3.out.putBlk k hk
  rw [show (⟨m.s, m.st, m.at_ + 1, m.steps + 1⟩ : GMach).s.blocks.getD k (newB 0) = b from hb0] at hc
  have e0 : W3.cell? ⟨g, k * 10, none⟩ = some (.int .u8 b.kind) := hc 0 _ rfl
  have e1 : W3.cell? ⟨g, k * 10 + 1, none⟩ = some (.bool b.w0) := hc 1 _ rfl
  have e2 : W3.cell? ⟨g, k * 10 + 2, none⟩ = some (.bool b.w1) := hc 2 _ rfl
  have e3 : W3.cell? ⟨g, k * 10 + 3, none⟩ = some (.bool b.ran) := hc 3 _ rfl
  have e4 : W3.cell? ⟨g, k * 10 + 4, none⟩ = some (.bool b.going) := hc 4 _ rfl
  have e5 : W3.cell? ⟨g, k * 10 + 5, none⟩ = some (.int .i64 b.frm) := hc 5 _ rfl
  have e6 : W3.cell? ⟨g, k * 10 + 6, none⟩ = some (.int .i64 b.et) := hc 6 _ rfl
  have e7 : W3.cell? ⟨g, k * 10 + 7, none⟩ = some (.int .i64 b.cv) := hc 7 _ rfl
  have e8 : W3.cell? ⟨g, k * 10 + 8, none⟩ = some (.bool b.q) := hc 8 _ rfl
  have e9 : W3.cell? ⟨g, k * 10 + 9, none⟩ = some (.bool b.p) := hc 9 _ rfl
  have cB : W3.cell? ⟨X, 5, none⟩ = some (.slice (some ⟨g, 0, none⟩) m.s.blocks.length q) := cell_of_row _ _ 5 _ _ _ M3.out.row
  have hk2 : (k : Int) < (m.s.blocks.length : Int) := by omega
  have hj2 : (j : Int) < ((outsB b).length : Int) := by omega
  clear hc hb0 hg
  go_wp2_with fail
  go_region_with (first | (go_at_call 83; refine (OB.out _).mono ?_; rintro e W4 ⟨v, rfl, ro, hb4, -⟩; obtain ⟨bo, off, co, rfl, hco⟩ := rd_at64 ro j HJ2.out; rw [HX.out] at hco; have m4 := M3.out.below ((Below.refl _ _).drew.trans hb4); have j3 := cell_below ((Below.refl _ _).drew.trans hb4) _ _ k3) | (go_at_call 79; refine (HP.out _ _ _ (by assumption)).mono ?_; rintro e W5 ⟨rfl, S5, m5, -⟩))
  all_goals
    go_wp2
    go_end0
    exact ⟨rfl, S5, m5⟩
set_option maxHeartbeats 2000000 in
set_option maxRecDepth 100000 in
theorem step_22 (w0 w : World) (X : Nat) (c : GCode) (vs bs is : Value) (now : Int) (m : GMach) (V B S : Value) (h : MSt w0 w X c vs bs is now m V B S) (_ : m.st.length ≤ 900) (ha : m.at_ ≤ 100000) (hn : m.steps ≤ 100000) (t a n : Int) :
    Calls Try.prog 48 #[.pointer (some ⟨X, 0, none⟩), .agg #[.int .u8 22, .int .u8 t, .int .i64 a, .int .i64 n]] w (StPost1 w0 X c vs bs is now ⟨m.s, m.st, c.ins.length, m.steps + 1⟩ V B (.tuple #[])) := by
  obtain ⟨-, -, -, -, -, -, -, c7, c8, -, -, -, -, -, -, -, -, f7, f8, -⟩ := row10 h.row
  have lX := h.lt
  obtain ⟨b1, r1, z1⟩ := one_block ((w.setCell ⟨X, 8, none⟩ (.int .i64 ((m.steps : Int) + 1))).setCell ⟨X, 7, none⟩ (.int .i64 ((m.at_ : Int) + 1))) (.cells #[.int .u8 22, .int .u8 t, .int .i64 a, .int .i64 n] 49)
  have MT := Fact.mk (h.tick.below b1)
  simp only [World.size_setCell] at r1 b1 z1
  have R1 := Fact.mk r1
  have Z1 := Fact.mk z1
  have HJ := Fact.mk (fun W S (hm : MSt w0 W X c vs bs is now ⟨m.s, m.st, m.at_ + 1, m.steps + 1⟩ V B S) => joins_no w0 W X c vs bs is now _ V B S hm 22 t a n rfl)
  clear h b1 r1 z1
  go_enter Try.func48, Try.ntmps48
  go_upto_region 3 with (fail)
  generalize ((w.setCell ⟨X, 8, none⟩ (.int .i64 ((m.steps : Int) + 1))).setCell ⟨X, 7, none⟩ (.int .i64 ((m.at_ : Int) + 1))).alloc (.cells #[.int .u8 22, .int .u8 t, .int .i64 a, .int .i64 n] 49) = w2 at *
  have L1 : w.heap.size < w2.heap.size := by rw [Z1.out]; omega
  have k0 : w2.cell? ⟨w.heap.size, 0, none⟩ = some (.int .u8 22) := by rw [cell_of_row _ _ 0 _ _ _ R1.out]; rfl
  have k1 : w2.cell? ⟨w.heap.size, 1, none⟩ = some (.int .u8 t) := by rw [cell_of_row _ _ 1 _ _ _ R1.out]; rfl
  have k2 : w2.cell? ⟨w.heap.size, 2, none⟩ = some (.int .i64 a) := by rw [cell_of_row _ _ 2 _ _ _ R1.out]; rfl
  have k3 : w2.cell? ⟨w.heap.size, 3, none⟩ = some (.int .i64 n) := by rw [cell_of_row _ _ 3 _ _ _ R1.out]; rfl
  go_wp2_with fail
  refine (HJ.out _ _ MT.out).mono ?_
  rintro e W3 ⟨rfl, hb⟩
  have M3 := Fact.mk (MT.out.below hb)
  have R3 := Fact.mk ((hb.block w.heap.size L1).trans R1.out)
  have L3 : w.heap.size < W3.heap.size := Nat.lt_of_lt_of_le L1 hb.size
  have lX3 := M3.out.lt
  replace k0 := cell_below hb _ _ k0
  replace k1 := cell_below hb _ _ k1
  replace k2 := cell_below hb _ _ k2
  replace k3 := cell_below hb _ _ k3
  clear hb MT R1 Z1 HJ L1 c7 c8 f7 f8 lX
  have cV : W3.cell? ⟨X, 4, none⟩ = some V := by rw [cell_of_row _ _ 4 _ _ _ M3.out.row]; rfl
  have cB : W3.cell? ⟨X, 5, none⟩ = some B := by rw [cell_of_row _ _ 5 _ _ _ M3.out.row]; rfl
  have cS : W3.cell? ⟨X, 6, none⟩ = some S := by rw [cell_of_row _ _ 6 _ _ _ M3.out.row]; rfl
  have d7 : W3.frozen? ⟨X, 7, none⟩ = false := frozen_of_row _ _ _ _ _ M3.out.row
  have c7 : W3.cell? ⟨X, 7, none⟩ = some (.int .i64 ((m.at_ + 1 : Nat) : Int)) := cell_of_row _ _ 7 _ _ _ M3.out.row
  obtain ⟨A3, c3, rfl⟩ : ∃ A c', is = .slice A c.ins.length c' := by obtain ⟨_, A, c', h, _⟩ := M3.out.old.ins; exact ⟨A, c', h⟩
  have c3' : W3.cell? ⟨X, 3, none⟩ = some (.slice A3 c.ins.length c3) := cell_of_row _ _ 3 _ _ _ M3.out.row
  have M4 := Fact.mk (M3.out.goto c.ins.length)
  go_wp2
  go_end0
  exact ⟨rfl, S, M4.out⟩
end Go.Proofs.Ytiogpainajokkaa

namespace Go.Proofs.Ytiogpainajokkaa
open Go.RowKit
theorem inR_bnd {t n : Int} (h : inR t n = true) : -2147483648 ≤ n ∧ n ≤ 4294967295 := by
  have := range_bound t
  unfold inR at h
  simp only [Bool.and_eq_true, decide_eq_true_eq] at h
  omega
theorem inR_bool {n : Int} (h : inR 1 n = true) : 0 ≤ n ∧ n ≤ 1 := by
  unfold inR rangeOf at h
  simp only [if_true, Bool.and_eq_true, decide_eq_true_eq] at h
  exact h
theorem set_nat {α : Type} (l : List α) (a : Int) (k : Nat) (h : a = k) (x : α) : l.set a.toNat x = l.set k x := by rw [h]; rfl
set_option maxHeartbeats 2000000 in
theorem mstep_any (w0 w : World) (X : Nat) (c : GCode) (vs bs is : Value) (now : Int) (m : GMach) (V B S : Value) (h0 : (spotsB c).2.2 = 0) (hM : MOk c m) (hk : m.at_ < c.ins.length) (hz : zeroDiv m c.ins[m.at_] = false) (h : MSt w0 w X c vs bs is now m V B S) :
    Calls Try.prog 48 #[.pointer (some ⟨X, 0, none⟩), .agg #[.int .u8 c.ins[m.at_].op, .int .u8 c.ins[m.at_].t, .int .i64 c.ins[m.at_].a, .int .i64 c.ins[m.at_].n]] w (StPost1 w0 X c vs bs is now (mStep c now m c.ins[m.at_]) V B (.tuple #[])) := by
  obtain ⟨S0, s0, s1, eS, est, hS, hs1, hn⟩ := met h0 hM hk
  have hI := (ins_ok (spots_right h0)) m.at_ hk
  obtain ⟨hr, hst, hsteps⟩ := hM.go hk
  have hP := spots_plc h0
  have hl : m.st.length ≤ 900 := by have := okIns_len hst; have := hP.room m.at_; omega
  have ha : m.at_ ≤ 100000 := by have := (right_parts (spots_right h0)).2.2.2.2.1; omega
  have hn' : m.steps ≤ 100000 := by have := hP.hi m.at_; omega
  have hfit := hM.fits
  unfold fitsS at hfit
  simp only [Bool.and_eq_true] at hfit
  obtain ⟨hfv, hfb⟩ := hfit
  have lv : c.vars.length = m.s.vars.length := by have := okIns_len hfv; unfold tysOf at this; rw [List.length_map] at this; exact this
  have lb := okBlks_len hfb
  obtain ⟨stk, hstk⟩ : ∃ stk, (spotAt (spotsB c).1 m.at_).stack = stk := ⟨_, rfl⟩
  obtain ⟨i, hi⟩ : ∃ i, c.ins[m.at_] = i := ⟨_, rfl⟩
  rw [hi] at eS hs1 hn hI hz ⊢
  rw [hstk] at eS hs1 hn
  obtain ⟨op, t, a, n⟩ := i
  have eff : ∀ x y, effB c ⟨op, t, a, n⟩ stk = (x, y) → okIns x s1 = true := fun x y e => by rw [e] at hs1; exact hs1
  clear hn hst hsteps hr hi hstk hS eS
  by_cases hj : joinsOp op = true
  · rw [mStep, if_pos hj]
    have hj2 := hj
    unfold joinsOp at hj2
    simp only [Bool.or_eq_true, Bool.and_eq_true, decide_eq_true_eq] at hj2
    have hx : ∃ r, effB c ⟨op, t, a, n⟩ stk = ([t, t], [r]) := by
      by_cases hc : op = 13 ∨ op = 14
      · refine ⟨1, ?_⟩
        unfold effB
        rw [if_neg (by show ¬ op = 1; omega), if_neg (by show ¬ op = 2; omega), if_neg (by show ¬ op = 3; omega), if_neg (by show ¬ (4 ≤ op ∧ op ≤ 11); omega), if_neg (by show ¬ op = 12; omega), if_pos hc]
      · refine ⟨t, ?_⟩
        unfold effB
        rw [if_neg (by show ¬ op = 1; omega), if_neg (by show ¬ op = 2; omega), if_neg (by show ¬ op = 3; omega), if_pos (by show 4 ≤ op ∧ op ≤ 11; omega)]
    obtain ⟨r, e⟩ := hx
    obtain ⟨x, y, rfl, hx, hy⟩ := okIns_two (eff _ _ e)
    obtain ⟨q1, q2, q3⟩ := last_app2 s0 x y
    rw [est, q1, q2, q3]
    refine step_j w0 w X c vs bs is now m V B S h hl ha hn' t a n op hj s0 x y est (fun h78 hy0 => ?_)
    unfold zeroDiv at hz
    rw [est, q1, hy0] at hz
    rcases h78 with rfl | rfl <;> simp at hz
  have hj2 : ¬ ((4 ≤ op ∧ op ≤ 11) ∨ op = 13 ∨ op = 14) := fun hh => hj (by
    unfold joinsOp
    simp only [Bool.or_eq_true, Bool.and_eq_true, decide_eq_true_eq]
    omega)
  have effU : ∀ x y, effB c ⟨op, t, a, n⟩ stk = (x, y) → okIns x s1 = true := eff
  rw [mStep, if_neg hj]
  by_cases o1 : op = 1
  · subst o1
    rw [if_pos rfl]
    exact step_1 w0 w X c vs bs is now m V B S h hl ha hn' t a n
  rw [if_neg o1]
  by_cases o2 : op = 2
  · subst o2
    rw [if_pos rfl]
    have hv := fit_var hI.2 (.inl rfl)
    obtain ⟨k, rfl⟩ : ∃ k : Nat, a = k := ⟨a.toNat, (Int.toNat_of_nonneg hv.1).symm⟩
    exact step_2 w0 w X c vs bs is now m V B S h hl ha hn' t n k (by have := hv.2; show k < m.s.vars.length; simp only at this; omega) _ rfl
  rw [if_neg o2]
  by_cases o3 : op = 3
  · subst o3
    rw [if_pos rfl]
    obtain ⟨x, rfl, hx⟩ := okIns_one (eff [varTy c a] [] (by unfold effB; rw [if_neg o1, if_neg o2, if_pos rfl]))
    obtain ⟨q1, q2⟩ := last_app s0 x
    have hv := fit_var hI.2 (.inr rfl)
    obtain ⟨k, rfl⟩ : ∃ k : Nat, a = k := ⟨a.toNat, (Int.toNat_of_nonneg hv.1).symm⟩
    rw [est, q1, q2]
    exact step_3 w0 w X c vs bs is now m V B S h hl ha hn' t n k (by have := hv.2; show k < m.s.vars.length; simp only at this; omega) s0 x est
  rw [if_neg o3]
  by_cases o12 : op = 12
  · subst o12
    rw [if_pos rfl]
    obtain ⟨x, rfl, hx⟩ := okIns_one (eff [t] [t] (by unfold effB; rw [if_neg o1, if_neg o2, if_neg o3, if_neg (by show ¬ ((4 : Int) ≤ 12 ∧ (12 : Int) ≤ 11); omega), if_pos rfl]))
    obtain ⟨q1, q2⟩ := last_app s0 x
    have := inR_bnd hx
    rw [est, q1, q2]
    refine step_12 w0 w X c vs bs is now m V B S h hl ha hn' t a n s0 x est ?_ (by omega) (by omega)
    by_cases ht : t = 1
    · subst ht; exact .inl (inR_bool hx)
    · exact .inr ht
  rw [if_neg o12]
  by_cases o15 : op = 15
  · subst o15
    rw [if_pos rfl]
    obtain ⟨x, rfl, hx⟩ := okIns_one (eff [a % 256] [t] (by unfold effB; rw [if_neg o1, if_neg o2, if_neg o3, if_neg (by show ¬ ((4 : Int) ≤ 15 ∧ (15 : Int) ≤ 11); omega), if_neg o12, if_neg (by show ¬ ((15 : Int) = 13 ∨ (15 : Int) = 14); omega), if_pos rfl]))
    obtain ⟨q1, q2⟩ := last_app s0 x
    rw [est, q1, q2]
    exact step_15 w0 w X c vs bs is now m V B S h hl ha hn' t a n s0 x est
  rw [if_neg o15]
  by_cases o16 : op = 16
  · subst o16
    rw [if_pos rfl]
    obtain ⟨x, rfl, hx⟩ := okIns_one (eff [stk.getLastD 0] [stk.getLastD 0, stk.getLastD 0] (by unfold effB; rw [if_neg o1, if_neg o2, if_neg o3, if_neg (by show ¬ ((4 : Int) ≤ 16 ∧ (16 : Int) ≤ 11); omega), if_neg o12, if_neg (by show ¬ ((16 : Int) = 13 ∨ (16 : Int) = 14); omega), if_neg o15, if_pos rfl]))
    have q1 := (last_app s0 x).1
    have e : topI m.st = x := by rw [est, q1]
    rw [e]
    exact step_16 w0 w X c vs bs is now m V B S h hl ha hn' t a n s0 x est
  rw [if_neg o16]
  by_cases o17 : op = 17
  · subst o17
    rw [if_pos rfl]
    obtain ⟨x, rfl, hx⟩ := okIns_one (eff [stk.getLastD 0] [] (by unfold effB; rw [if_neg o1, if_neg o2, if_neg o3, if_neg (by show ¬ ((4 : Int) ≤ 17 ∧ (17 : Int) ≤ 11); omega), if_neg o12, if_neg (by show ¬ ((17 : Int) = 13 ∨ (17 : Int) = 14); omega), if_neg o15, if_neg o16, if_pos rfl]))
    obtain ⟨q1, q2⟩ := last_app s0 x
    rw [est, q2]
    exact step_17 w0 w X c vs bs is now m V B S h hl ha hn' t a n s0 x est
  rw [if_neg o17]
  by_cases o18 : op = 18
  · subst o18
    rw [if_pos rfl]
    have hv := fit_jump hI.2 (.inl rfl)
    obtain ⟨k, rfl⟩ : ∃ k : Nat, a = k := ⟨a.toNat, (Int.toNat_of_nonneg hv.1).symm⟩
    exact step_18 w0 w X c vs bs is now m V B S h hl ha hn' t n k
  rw [if_neg o18]
  by_cases o19 : op = 19
  · subst o19
    rw [if_pos rfl]
    obtain ⟨x, rfl, hx⟩ := okIns_one (eff [1] [] (by unfold effB; rw [if_neg o1, if_neg o2, if_neg o3, if_neg (by show ¬ ((4 : Int) ≤ 19 ∧ (19 : Int) ≤ 11); omega), if_neg o12, if_neg (by show ¬ ((19 : Int) = 13 ∨ (19 : Int) = 14); omega), if_neg o15, if_neg o16, if_neg o17, if_pos rfl]))
    obtain ⟨q1, q2⟩ := last_app s0 x
    have hv := fit_jump hI.2 (.inr rfl)
    obtain ⟨k, rfl⟩ : ∃ k : Nat, a = k := ⟨a.toNat, (Int.toNat_of_nonneg hv.1).symm⟩
    rw [est, q1, q2]
    by_cases hx0 : x = 0
    · subst hx0
      rw [if_pos rfl]
      exact step_19a w0 w X c vs bs is now m V B S h hl ha hn' t n k s0 est
    · rw [if_neg hx0]
      exact step_19b w0 w X c vs bs is now m V B S h hl ha hn' t k n s0 x est hx0
  rw [if_neg o19]
  by_cases o20 : op = 20
  · subst o20
    rw [if_pos rfl]
    have e2 := eff (pinsIn (c.blocks.getD a.toNat 0)) [] (by unfold effB; rw [if_neg o1, if_neg o2, if_neg o3, if_neg (by show ¬ ((4 : Int) ≤ 20 ∧ (20 : Int) ≤ 11); omega), if_neg o12, if_neg (by show ¬ ((20 : Int) = 13 ∨ (20 : Int) = 14); omega), if_neg o15, if_neg o16, if_neg o17, if_neg o19, if_pos rfl])
    have hlen := okIns_len e2
    have hb := fit_block hI.2 (.inl rfl)
    obtain ⟨k, rfl⟩ : ∃ k : Nat, a = k := ⟨a.toNat, (Int.toNat_of_nonneg hb.1).symm⟩
    have hkb : k < c.blocks.length := by have := hb.2; simp only at this; omega
    have hkd := (right_parts (spots_right h0)).2.2.2.2.2.2.1 k hkb
    have e3 : c.blocks.getD k 0 = c.blocks[k] := by rw [List.getD_eq_getElem?_getD, List.getElem?_eq_getElem hkb]; rfl
    have hpos := pinsIn_pos hkd.1 hkd.2
    replace hlen : (pinsIn (c.blocks.getD k 0)).length = s1.length := hlen
    have hsl : m.st.length - (pinsIn (c.blocks.getD k 0)).length = s0.length := by rw [est, hlen, List.length_append, Nat.add_sub_cancel]
    have d1 : m.st.take (m.st.length - (pinsIn (c.blocks.getD k 0)).length) = s0 := by rw [hsl, est, List.take_left' rfl]
    have d2 : m.st.drop (m.st.length - (pinsIn (c.blocks.getD k 0)).length) = s1 := by rw [hsl, est, List.drop_left' rfl]
    show Calls _ _ _ _ (StPost1 w0 X c vs bs is now ⟨⟨m.s.vars, m.s.blocks.set k (runB (blkAt m.s (k : Int)) (m.st.drop (m.st.length - (pinsIn (c.blocks.getD k 0)).length)) now).1⟩, m.st.take (m.st.length - (pinsIn (c.blocks.getD k 0)).length), m.at_ + 1, m.steps + 1⟩ V B (.tuple #[]))
    rw [d1, d2]
    exact step_20 w0 w X c vs bs is now m V B S h hl ha hn' t n k (by omega) hkb (blkAt m.s (k : Int)) _ rfl s0 s1 est hlen.symm (by rw [← hlen, e3]; exact hpos) rfl
  rw [if_neg o20]
  by_cases o21 : op = 21
  · subst o21
    rw [if_pos rfl]
    have hb := fit_block hI.2 (.inr rfl)
    have hp := fit_pin hI.2 rfl
    obtain ⟨k, rfl⟩ : ∃ k : Nat, a = k := ⟨a.toNat, (Int.toNat_of_nonneg hb.1).symm⟩
    obtain ⟨j, rfl⟩ : ∃ j : Nat, n = j := ⟨n.toNat, (Int.toNat_of_nonneg hp.1).symm⟩
    have hkb : k < c.blocks.length := by have := hb.2; simp only at this; omega
    obtain ⟨g1, g2⟩ := okBlks_get hfb k hkb
    have ho := okIns_len (outs_in g2)
    rw [g1] at ho
    exact step_21 w0 w X c vs bs is now m V B S h hl ha hn' t k (by omega) j (blkAt m.s (k : Int)) rfl (by have := hp.2; show j < (outsB (m.s.blocks.getD k (newB 0))).length; rw [← ho]; simp only [Int.toNat_natCast] at this; omega) _ rfl
  rw [if_neg o21]
  have o22 : op = 22 := by
    have h3 := hI.1
    simp only at h3
    omega
  subst o22
  rw [if_pos rfl]
  exact step_22 w0 w X c vs bs is now m V B S h hl ha hn' t a n
end Go.Proofs.Ytiogpainajokkaa

