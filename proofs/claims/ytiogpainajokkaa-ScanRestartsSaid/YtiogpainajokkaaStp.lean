/- What an instruction makes of a scan machine: contract of machine.step. Printed by gen_step.py. -/
import Derived.Test.YtiogpainajokkaaJnsM
import Derived.Test.YtiogpainajokkaaRns
namespace Go.Proofs.Ytiogpainajokkaa
open Go.RowKit
set_option maxHeartbeats 2000000 in
set_option maxRecDepth 100000 in
theorem step_j (w0 w : World) (X : Nat) (c : GCode) (vs bs is : Value) (now : Int) (m : GMach) (V B S : Value) (h : MSt w0 w X c vs bs is now m V B S) (hl : m.st.length ≤ 900) (ha : m.at_ ≤ 100000) (hn : m.steps ≤ 100000) (t a n : Int) (op : Int) (hop : joinsOp op = true) (s : List Int) (x y : Int) (hs : m.st = s ++ [x, y]) (hy : op = 7 ∨ op = 8 → y ≠ 0) :
    Calls Try.prog 48 #[.pointer (some ⟨X, 0, none⟩), .agg #[.int .u8 op, .int .u8 t, .int .i64 a, .int .i64 n]] w (StPost1 w0 X c vs bs is now ⟨m.s, s ++ [signB op t x y], m.at_ + 1, m.steps + 1⟩ V B (.tuple #[])) := by
  obtain ⟨-, -, -, -, -, -, -, c7, c8, -, -, -, -, -, -, -, -, f7, f8, -⟩ := row10 h.row
  have lX := h.lt
  obtain ⟨b1, r1, z1⟩ := one_block ((w.setCell ⟨X, 8, none⟩ (.int .i64 ((m.steps : Int) + 1))).setCell ⟨X, 7, none⟩ (.int .i64 ((m.at_ : Int) + 1))) (.cells #[.int .u8 op, .int .u8 t, .int .i64 a, .int .i64 n] 49)
  have MT := Fact.mk (h.tick.below b1)
  simp only [World.size_setCell] at r1 b1 z1
  have R1 := Fact.mk r1
  have Z1 := Fact.mk z1
  have HJ := Fact.mk (fun W S (hm : MSt w0 W X c vs bs is now ⟨m.s, m.st, m.at_ + 1, m.steps + 1⟩ V B S) => joins_any w0 W X c vs bs is now _ V B S hm (by show m.st.length ≤ 1000; omega) op t a n hop s x y hs hy)
  clear h b1 r1 z1 hs hy
  go_enter Try.func48, Try.ntmps48
  go_upto_region 3 with (fail)
  generalize ((w.setCell ⟨X, 8, none⟩ (.int .i64 ((m.steps : Int) + 1))).setCell ⟨X, 7, none⟩ (.int .i64 ((m.at_ : Int) + 1))).alloc (.cells #[.int .u8 op, .int .u8 t, .int .i64 a, .int .i64 n] 49) = w2 at *
  have L1 : w.heap.size < w2.heap.size := by rw [Z1.out]; omega
  have k0 : w2.cell? ⟨w.heap.size, 0, none⟩ = some (.int .u8 op) := by rw [cell_of_row _ _ 0 _ _ _ R1.out]; rfl
  have k1 : w2.cell? ⟨w.heap.size, 1, none⟩ = some (.int .u8 t) := by rw [cell_of_row _ _ 1 _ _ _ R1.out]; rfl
  have k2 : w2.cell? ⟨w.heap.size, 2, none⟩ = some (.int .i64 a) := by rw [cell_of_row _ _ 2 _ _ _ R1.out]; rfl
  have k3 : w2.cell? ⟨w.heap.size, 3, none⟩ = some (.int .i64 n) := by rw [cell_of_row _ _ 3 _ _ _ R1.out]; rfl
  go_wp2_with fail
  refine (HJ.out _ _ MT.out).mono ?_
  rintro e W3 ⟨rfl, S3, m3⟩
  have M3 := Fact.mk m3
  clear m3 k0 k1 k2 k3
  go_wp2
  go_end0
  exact ⟨rfl, S3, M3.out⟩
set_option maxHeartbeats 2000000 in
set_option maxRecDepth 100000 in
theorem step_1 (w0 w : World) (X : Nat) (c : GCode) (vs bs is : Value) (now : Int) (m : GMach) (V B S : Value) (h : MSt w0 w X c vs bs is now m V B S) (hl : m.st.length ≤ 900) (ha : m.at_ ≤ 100000) (hn : m.steps ≤ 100000) (t a n : Int) :
    Calls Try.prog 48 #[.pointer (some ⟨X, 0, none⟩), .agg #[.int .u8 1, .int .u8 t, .int .i64 a, .int .i64 n]] w (StPost1 w0 X c vs bs is now ⟨m.s, m.st ++ [n], m.at_ + 1, m.steps + 1⟩ V B (.tuple #[])) := by
  obtain ⟨-, -, -, -, -, -, -, c7, c8, -, -, -, -, -, -, -, -, f7, f8, -⟩ := row10 h.row
  have lX := h.lt
  obtain ⟨b1, r1, z1⟩ := one_block ((w.setCell ⟨X, 8, none⟩ (.int .i64 ((m.steps : Int) + 1))).setCell ⟨X, 7, none⟩ (.int .i64 ((m.at_ : Int) + 1))) (.cells #[.int .u8 1, .int .u8 t, .int .i64 a, .int .i64 n] 49)
  have MT := Fact.mk (h.tick.below b1)
  simp only [World.size_setCell] at r1 b1 z1
  have R1 := Fact.mk r1
  have Z1 := Fact.mk z1
  have HJ := Fact.mk (fun W S (hm : MSt w0 W X c vs bs is now ⟨m.s, m.st, m.at_ + 1, m.steps + 1⟩ V B S) => joins_no w0 W X c vs bs is now _ V B S hm 1 t a n rfl)
  clear h b1 r1 z1
  go_enter Try.func48, Try.ntmps48
  go_upto_region 3 with (fail)
  generalize ((w.setCell ⟨X, 8, none⟩ (.int .i64 ((m.steps : Int) + 1))).setCell ⟨X, 7, none⟩ (.int .i64 ((m.at_ : Int) + 1))).alloc (.cells #[.int .u8 1, .int .u8 t, .int .i64 a, .int .i64 n] 49) = w2 at *
  have L1 : w.heap.size < w2.heap.size := by rw [Z1.out]; omega
  have k0 : w2.cell? ⟨w.heap.size, 0, none⟩ = some (.int .u8 1) := by rw [cell_of_row _ _ 0 _ _ _ R1.out]; rfl
  have k1 : w2.cell? ⟨w.heap.size, 1, none⟩ = some (.int .u8 t) := by rw [cell_of_row _ _ 1 _ _ _ R1.out]; rfl
  have k2 : w2.cell? ⟨w.heap.size, 2, none⟩ = some (.int .i64 a) := by rw [cell_of_row _ _ 2 _ _ _ R1.out]; rfl
  have k3 : w2.cell? ⟨w.heap.size, 3, none⟩ = some (.int .i64 n) := by rw [cell_of_row _ _ 3 _ _ _ R1.out]; rfl
  go_wp2_with fail
  refine (HJ.out _ _ MT.out).mono ?_
  rintro e W3 ⟨rfl, hb⟩
  have M3 := Fact.mk (MT.out.below hb)
  have R3 := Fact.mk ((hb.block w.heap.size L1).trans R1.out)
  have L3 : w.heap.size < W3.heap.size := Nat.lt_of_lt_of_le L1 hb.size
  have lX3 := M3.out.lt
  replace k0 := cell_below hb _ _ k0
  replace k1 := cell_below hb _ _ k1
  replace k2 := cell_below hb _ _ k2
  replace k3 := cell_below hb _ _ k3
  clear hb MT R1 Z1 HJ L1 c7 c8 f7 f8 lX
  have HS := Fact.mk hl
  have HP := Fact.mk (fun W S v (hm : MSt w0 W X c vs bs is now ⟨m.s, m.st, m.at_ + 1, m.steps + 1⟩ V B S) => push_any w0 W X c vs bs is now _ V B S hm (by have := HS.out; show (m.st).length ≤ 1000; omega) v)
  go_wp2_with fail
  refine (HP.out _ _ _ M3.out).mono ?_
  rintro e W4 ⟨rfl, S4, m4, -⟩
  go_wp2
  go_end0
  exact ⟨rfl, S4, m4⟩
set_option maxHeartbeats 2000000 in
set_option maxRecDepth 100000 in
theorem step_2 (w0 w : World) (X : Nat) (c : GCode) (vs bs is : Value) (now : Int) (m : GMach) (V B S : Value) (h : MSt w0 w X c vs bs is now m V B S) (hl : m.st.length ≤ 900) (ha : m.at_ ≤ 100000) (hn : m.steps ≤ 100000) (t n : Int) (k : Nat) (hk : k < m.s.vars.length) (x : Int) (hx : m.s.vars.getD k 0 = x) :
    Calls Try.prog 48 #[.pointer (some ⟨X, 0, none⟩), .agg #[.int .u8 2, .int .u8 t, .int .i64 k, .int .i64 n]] w (StPost1 w0 X c vs bs is now ⟨m.s, m.st ++ [x], m.at_ + 1, m.steps + 1⟩ V B (.tuple #[])) := by
  obtain ⟨-, -, -, -, -, -, -, c7, c8, -, -, -, -, -, -, -, -, f7, f8, -⟩ := row10 h.row
  have lX := h.lt
  obtain ⟨b1, r1, z1⟩ := one_block ((w.setCell ⟨X, 8, none⟩ (.int .i64 ((m.steps : Int) + 1))).setCell ⟨X, 7, none⟩ (.int .i64 ((m.at_ : Int) + 1))) (.cells #[.int .u8 2, .int .u8 t, .int .i64 k, .int .i64 n] 49)
  have MT := Fact.mk (h.tick.below b1)
  simp only [World.size_setCell] at r1 b1 z1
  have R1 := Fact.mk r1
  have Z1 := Fact.mk z1
  have HJ := Fact.mk (fun W S (hm : MSt w0 W X c vs bs is now ⟨m.s, m.st, m.at_ + 1, m.steps + 1⟩ V B S) => joins_no w0 W X c vs bs is now _ V B S hm 2 t k n rfl)
  clear h b1 r1 z1
  go_enter Try.func48, Try.ntmps48
  go_upto_region 3 with (fail)
  generalize ((w.setCell ⟨X, 8, none⟩ (.int .i64 ((m.steps : Int) + 1))).setCell ⟨X, 7, none⟩ (.int .i64 ((m.at_ : Int) + 1))).alloc (.cells #[.int .u8 2, .int .u8 t, .int .i64 k, .int .i64 n] 49) = w2 at *
  have L1 : w.heap.size < w2.heap.size := by rw [Z1.out]; omega
  have k0 : w2.cell? ⟨w.heap.size, 0, none⟩ = some (.int .u8 2) := by rw [cell_of_row _ _ 0 _ _ _ R1.out]; rfl
  have k1 : w2.cell? ⟨w.heap.size, 1, none⟩ = some (.int .u8 t) := by rw [cell_of_row _ _ 1 _ _ _ R1.out]; rfl
  have k2 : w2.cell? ⟨w.heap.size, 2, none⟩ = some (.int .i64 k) := by rw [cell_of_row _ _ 2 _ _ _ R1.out]; rfl
  have k3 : w2.cell? ⟨w.heap.size, 3, none⟩ = some (.int .i64 n) := by rw [cell_of_row _ _ 3 _ _ _ R1.out]; rfl
  go_wp2_with fail
  refine (HJ.out _ _ MT.out).mono ?_
  rintro e W3 ⟨rfl, hb⟩
  have M3 := Fact.mk (MT.out.below hb)
  have R3 := Fact.mk ((hb.block w.heap.size L1).trans R1.out)
  have L3 : w.heap.size < W3.heap.size := Nat.lt_of_lt_of_le L1 hb.size
  have lX3 := M3.out.lt
  replace k0 := cell_below hb _ _ k0
  replace k1 := cell_below hb _ _ k1
  replace k2 := cell_below hb _ _ k2
  replace k3 := cell_below hb _ _ k3
  clear hb MT R1 Z1 HJ L1 c7 c8 f7 f8 lX
  have HX := Fact.mk hx
  clear hx
  have HS := Fact.mk hl
  have HP := Fact.mk (fun W S v (hm : MSt w0 W X c vs bs is now ⟨m.s, m.st, m.at_ + 1, m.steps + 1⟩ V B S) => push_any w0 W X c vs bs is now _ V B S hm (by have := HS.out; show (m.st).length ≤ 1000; omega) v)
  have cV : W3.cell? ⟨X, 4, none⟩ = some V := by rw [cell_of_row _ _ 4 _ _ _ M3.out.row]; rfl
  have cB : W3.cell? ⟨X, 5, none⟩ = some B := by rw [cell_of_row _ _ 5 _ _ _ M3.out.row]; rfl
  have cS : W3.cell? ⟨X, 6, none⟩ = some S := by rw [cell_of_row _ _ 6 _ _ _ M3.out.row]; rfl
  have d7 : W3.frozen? ⟨X, 7, none⟩ = false := frozen_of_row _ _ _ _ _ M3.out.row
  have c7 : W3.cell? ⟨X, 7, none⟩ = some (.int .i64 ((m.at_ + 1 : Nat) : Int)) := cell_of_row _ _ 7 _ _ _ M3.out.row
  obtain ⟨g, q, rfl, -, cg, lg, -, -⟩ := M3.out.putVar k hk 0
  have hk2 : (k : Int) < (m.s.vars.length : Int) := by omega
  rw [show (⟨m.s, m.st, m.at_ + 1, m.steps + 1⟩ : GMach).s.vars.getD k 0 = x from HX.out] at cg
  go_wp2_with fail
  go_region_with (go_at_call 79; refine (HP.out _ _ _ (M3.out.below (Below.refl _ _).drew)).mono ?_; rintro e W4 ⟨rfl, S4, m4, -⟩)
  all_goals
    go_wp2
    go_end0
    exact ⟨rfl, S4, m4⟩
set_option maxHeartbeats 2000000 in
set_option maxRecDepth 100000 in
theorem step_3 (w0 w : World) (X : Nat) (c : GCode) (vs bs is : Value) (now : Int) (m : GMach) (V B S : Value) (h : MSt w0 w X c vs bs is now m V B S) (hl : m.st.length ≤ 900) (ha : m.at_ ≤ 100000) (hn : m.steps ≤ 100000) (t n : Int) (k : Nat) (hk : k < m.s.vars.length) (s : List Int) (x : Int) (hs : m.st = s ++ [x]) :
    Calls Try.prog 48 #[.pointer (some ⟨X, 0, none⟩), .agg #[.int .u8 3, .int .u8 t, .int .i64 k, .int .i64 n]] w (StPost1 w0 X c vs bs is now ⟨⟨m.s.vars.set k x, m.s.blocks⟩, s, m.at_ + 1, m.steps + 1⟩ V B (.tuple #[])) := by
  obtain ⟨-, -, -, -, -, -, -, c7, c8, -, -, -, -, -, -, -, -, f7, f8, -⟩ := row10 h.row
  have lX := h.lt
  obtain ⟨b1, r1, z1⟩ := one_block ((w.setCell ⟨X, 8, none⟩ (.int .i64 ((m.steps : Int) + 1))).setCell ⟨X, 7, none⟩ (.int .i64 ((m.at_ : Int) + 1))) (.cells #[.int .u8 3, .int .u8 t, .int .i64 k, .int .i64 n] 49)
  have MT := Fact.mk (h.tick.below b1)
  simp only [World.size_setCell] at r1 b1 z1
  have R1 := Fact.mk r1
  have Z1 := Fact.mk z1
  have HJ := Fact.mk (fun W S (hm : MSt w0 W X c vs bs is now ⟨m.s, m.st, m.at_ + 1, m.steps + 1⟩ V B S) => joins_no w0 W X c vs bs is now _ V B S hm 3 t k n rfl)
  clear h b1 r1 z1
  go_enter Try.func48, Try.ntmps48
  go_upto_region 3 with (fail)
  generalize ((w.setCell ⟨X, 8, none⟩ (.int .i64 ((m.steps : Int) + 1))).setCell ⟨X, 7, none⟩ (.int .i64 ((m.at_ : Int) + 1))).alloc (.cells #[.int .u8 3, .int .u8 t, .int .i64 k, .int .i64 n] 49) = w2 at *
  have L1 : w.heap.size < w2.heap.size := by rw [Z1.out]; omega
  have k0 : w2.cell? ⟨w.heap.size, 0, none⟩ = some (.int .u8 3) := by rw [cell_of_row _ _ 0 _ _ _ R1.out]; rfl
  have k1 : w2.cell? ⟨w.heap.size, 1, none⟩ = some (.int .u8 t) := by rw [cell_of_row _ _ 1 _ _ _ R1.out]; rfl
  have k2 : w2.cell? ⟨w.heap.size, 2, none⟩ = some (.int .i64 k) := by rw [cell_of_row _ _ 2 _ _ _ R1.out]; rfl
  have k3 : w2.cell? ⟨w.heap.size, 3, none⟩ = some (.int .i64 n) := by rw [cell_of_row _ _ 3 _ _ _ R1.out]; rfl
  go_wp2_with fail
  refine (HJ.out _ _ MT.out).mono ?_
  rintro e W3 ⟨rfl, hb⟩
  have M3 := Fact.mk (MT.out.below hb)
  have R3 := Fact.mk ((hb.block w.heap.size L1).trans R1.out)
  have L3 : w.heap.size < W3.heap.size := Nat.lt_of_lt_of_le L1 hb.size
  have lX3 := M3.out.lt
  replace k0 := cell_below hb _ _ k0
  replace k1 := cell_below hb _ _ k1
  replace k2 := cell_below hb _ _ k2
  replace k3 := cell_below hb _ _ k3
  clear hb MT R1 Z1 HJ L1 c7 c8 f7 f8 lX
  have HQ := Fact.mk (fun W S (hm : MSt w0 W X c vs bs is now ⟨m.s, m.st, m.at_ + 1, m.steps + 1⟩ V B S) => pop_any w0 W X c vs bs is now _ V B S hm (by show m.st.length ≤ 1000; omega) s x hs)
  have HS := Fact.mk (show s.length ≤ 900 by have := congrArg List.length hs; simp at this; omega)
  have cV : W3.cell? ⟨X, 4, none⟩ = some V := by rw [cell_of_row _ _ 4 _ _ _ M3.out.row]; rfl
  have cB : W3.cell? ⟨X, 5, none⟩ = some B := by rw [cell_of_row _ _ 5 _ _ _ M3.out.row]; rfl
  have cS : W3.cell? ⟨X, 6, none⟩ = some S := by rw [cell_of_row _ _ 6 _ _ _ M3.out.row]; rfl
  have d7 : W3.frozen? ⟨X, 7, none⟩ = false := frozen_of_row _ _ _ _ _ M3.out.row
  have c7 : W3.cell? ⟨X, 7, none⟩ = some (.int .i64 ((m.at_ + 1 : Nat) : Int)) := cell_of_row _ _ 7 _ _ _ M3.out.row
  obtain ⟨g, q, rfl, -, cg, lg, -, -⟩ := M3.out.putVar k hk 0
  have hk2 : (k : Int) < (m.s.vars.length : Int) := by omega
  go_wp2_with fail
  go_region_with (go_at_call 80; refine (HQ.out _ _ (M3.out.below (Below.refl _ _).drew)).mono ?_; rintro e W4 ⟨rfl, S4, m4, kp4⟩; have c4V : W4.cell? ⟨X, 4, none⟩ = some (.slice (some ⟨g, 0, none⟩) m.s.vars.length q) := cell_of_row _ _ 4 _ _ _ m4.row; have j2 : W4.cell? ⟨w.heap.size, 2, none⟩ = some (.int .i64 (k : Int)) := cell_of_row _ _ 2 _ _ _ (kp4.2 _ _ _ R3.out (by decide) (by decide)); have l4 := m4.lt; obtain ⟨g', q', hV4, fg4, cg4, lg4, hXg, -⟩ := m4.putVar k hk 0; simp only [Value.slice.injEq, Option.some.injEq, Addr.mk.injEq, and_true, true_and] at hV4; obtain ⟨rfl, rfl⟩ := hV4)
  all_goals
    obtain ⟨g2, q2, hV5, -, -, -, -, m5⟩ := m4.putVar k hk x
    simp only [Value.slice.injEq, Option.some.injEq, Addr.mk.injEq, and_true, true_and] at hV5
    obtain ⟨rfl, rfl⟩ := hV5
    go_wp2
    go_end0
    exact ⟨rfl, S4, m5⟩
set_option maxHeartbeats 2000000 in
set_option maxRecDepth 100000 in
theorem step_12 (w0 w : World) (X : Nat) (c : GCode) (vs bs is : Value) (now : Int) (m : GMach) (V B S : Value) (h : MSt w0 w X c vs bs is now m V B S) (hl : m.st.length ≤ 900) (ha : m.at_ ≤ 100000) (hn : m.steps ≤ 100000) (t a n : Int) (s : List Int) (x : Int) (hs : m.st = s ++ [x]) (hx : 0 ≤ x ∧ x ≤ 1 ∨ t ≠ 1) (h1 : -9223372036854775808 ≤ x) (h2 : x ≤ 9223372036854775807) :
    Calls Try.prog 48 #[.pointer (some ⟨X, 0, none⟩), .agg #[.int .u8 12, .int .u8 t, .int .i64 a, .int .i64 n]] w (StPost1 w0 X c vs bs is now ⟨m.s, s ++ [notI t x], m.at_ + 1, m.steps + 1⟩ V B (.tuple #[])) := by
  obtain ⟨-, -, -, -, -, -, -, c7, c8, -, -, -, -, -, -, -, -, f7, f8, -⟩ := row10 h.row
  have lX := h.lt
  obtain ⟨b1, r1, z1⟩ := one_block ((w.setCell ⟨X, 8, none⟩ (.int .i64 ((m.steps : Int) + 1))).setCell ⟨X, 7, none⟩ (.int .i64 ((m.at_ : Int) + 1))) (.cells #[.int .u8 12, .int .u8 t, .int .i64 a, .int .i64 n] 49)
  have MT := Fact.mk (h.tick.below b1)
  simp only [World.size_setCell] at r1 b1 z1
  have R1 := Fact.mk r1
  have Z1 := Fact.mk z1
  have HJ := Fact.mk (fun W S (hm : MSt w0 W X c vs bs is now ⟨m.s, m.st, m.at_ + 1, m.steps + 1⟩ V B S) => joins_no w0 W X c vs bs is now _ V B S hm 12 t a n rfl)
  clear h b1 r1 z1
  go_enter Try.func48, Try.ntmps48
  go_upto_region 3 with (fail)
  generalize ((w.setCell ⟨X, 8, none⟩ (.int .i64 ((m.steps : Int) + 1))).setCell ⟨X, 7, none⟩ (.int .i64 ((m.at_ : Int) + 1))).alloc (.cells #[.int .u8 12, .int .u8 t, .int .i64 a, .int .i64 n] 49) = w2 at *
  have L1 : w.heap.size < w2.heap.size := by rw [Z1.out]; omega
  have k0 : w2.cell? ⟨w.heap.size, 0, none⟩ = some (.int .u8 12) := by rw [cell_of_row _ _ 0 _ _ _ R1.out]; rfl
  have k1 : w2.cell? ⟨w.heap.size, 1, none⟩ = some (.int .u8 t) := by rw [cell_of_row _ _ 1 _ _ _ R1.out]; rfl
  have k2 : w2.cell? ⟨w.heap.size, 2, none⟩ = some (.int .i64 a) := by rw [cell_of_row _ _ 2 _ _ _ R1.out]; rfl
  have k3 : w2.cell? ⟨w.heap.size, 3, none⟩ = some (.int .i64 n) := by rw [cell_of_row _ _ 3 _ _ _ R1.out]; rfl
  go_wp2_with fail
  refine (HJ.out _ _ MT.out).mono ?_
  rintro e W3 ⟨rfl, hb⟩
  have M3 := Fact.mk (MT.out.below hb)
  have R3 := Fact.mk ((hb.block w.heap.size L1).trans R1.out)
  have L3 : w.heap.size < W3.heap.size := Nat.lt_of_lt_of_le L1 hb.size
  have lX3 := M3.out.lt
  replace k0 := cell_below hb _ _ k0
  replace k1 := cell_below hb _ _ k1
  replace k2 := cell_below hb _ _ k2
  replace k3 := cell_below hb _ _ k3
  clear hb MT R1 Z1 HJ L1 c7 c8 f7 f8 lX
  have HQ := Fact.mk (fun W S (hm : MSt w0 W X c vs bs is now ⟨m.s, m.st, m.at_ + 1, m.steps + 1⟩ V B S) => pop_any w0 W X c vs bs is now _ V B S hm (by show m.st.length ≤ 1000; omega) s x hs)
  have HS := Fact.mk (show s.length ≤ 900 by have := congrArg List.length hs; simp at this; omega)
  have HP := Fact.mk (fun W S v (hm : MSt w0 W X c vs bs is now ⟨m.s, s, m.at_ + 1, m.steps + 1⟩ V B S) => push_any w0 W X c vs bs is now _ V B S hm (by have := HS.out; show (s).length ≤ 1000; omega) v)
  have cV : W3.cell? ⟨X, 4, none⟩ = some V := by rw [cell_of_row _ _ 4 _ _ _ M3.out.row]; rfl
  have cB : W3.cell? ⟨X, 5, none⟩ = some B := by rw [cell_of_row _ _ 5 _ _ _ M3.out.row]; rfl
  have cS : W3.cell? ⟨X, 6, none⟩ = some S := by rw [cell_of_row _ _ 6 _ _ _ M3.out.row]; rfl
  have d7 : W3.frozen? ⟨X, 7, none⟩ = false := frozen_of_row _ _ _ _ _ M3.out.row
  have c7 : W3.cell? ⟨X, 7, none⟩ = some (.int .i64 ((m.at_ + 1 : Nat) : Int)) := cell_of_row _ _ 7 _ _ _ M3.out.row
  have HN := Fact.mk (fun W => not_any t x hx h1 h2 W)
  clear hx h1 h2
  go_wp2_with fail
  go_region_with (first | (go_at_call 80; refine (HQ.out _ _ (M3.out.below (Below.refl _ _).drew)).mono ?_; rintro e W4 ⟨rfl, S4, m4, kp4⟩; have j1 : W4.cell? ⟨w.heap.size, 1, none⟩ = some (.int .u8 t) := cell_of_row _ _ 1 _ _ _ (kp4.2 _ _ _ R3.out (by decide) (by decide))) | (go_at_call 81; refine (HN.out _).mono ?_; rintro e W5 ⟨rfl, rfl⟩) | (go_at_call 79; refine (HP.out _ _ _ (by assumption)).mono ?_; rintro e W6 ⟨rfl, S6, m6, -⟩))
  all_goals
    go_wp2
    go_end0
    exact ⟨rfl, S6, m6⟩
set_option maxHeartbeats 2000000 in
set_option maxRecDepth 100000 in
theorem step_15 (w0 w : World) (X : Nat) (c : GCode) (vs bs is : Value) (now : Int) (m : GMach) (V B S : Value) (h : MSt w0 w X c vs bs is now m V B S) (hl : m.st.length ≤ 900) (ha : m.at_ ≤ 100000) (hn : m.steps ≤ 100000) (t a n : Int) (s : List Int) (x : Int) (hs : m.st = s ++ [x]) :
    Calls Try.prog 48 #[.pointer (some ⟨X, 0, none⟩), .agg #[.int .u8 15, .int .u8 t, .int .i64 a, .int .i64 n]] w (StPost1 w0 X c vs bs is now ⟨m.s, s ++ [wrapOf t x], m.at_ + 1, m.steps + 1⟩ V B (.tuple #[])) := by
  obtain ⟨-, -, -, -, -, -, -, c7, c8, -, -, -, -, -, -, -, -, f7, f8, -⟩ := row10 h.row
  have lX := h.lt
  obtain ⟨b1, r1, z1⟩ := one_block ((w.setCell ⟨X, 8, none⟩ (.int .i64 ((m.steps : Int) + 1))).setCell ⟨X, 7, none⟩ (.int .i64 ((m.at_ : Int) + 1))) (.cells #[.int .u8 15, .int .u8 t, .int .i64 a, .int .i64 n] 49)
  have MT := Fact.mk (h.tick.below b1)
  simp only [World.size_setCell] at r1 b1 z1
  have R1 := Fact.mk r1
  have Z1 := Fact.mk z1
  have HJ := Fact.mk (fun W S (hm : MSt w0 W X c vs bs is now ⟨m.s, m.st, m.at_ + 1, m.steps + 1⟩ V B S) => joins_no w0 W X c vs bs is now _ V B S hm 15 t a n rfl)
  clear h b1 r1 z1
  go_enter Try.func48, Try.ntmps48
  go_upto_region 3 with (fail)
  generalize ((w.setCell ⟨X, 8, none⟩ (.int .i64 ((m.steps : Int) + 1))).setCell ⟨X, 7, none⟩ (.int .i64 ((m.at_ : Int) + 1))).alloc (.cells #[.int .u8 15, .int .u8 t, .int .i64 a, .int .i64 n] 49) = w2 at *
  have L1 : w.heap.size < w2.heap.size := by rw [Z1.out]; omega
  have k0 : w2.cell? ⟨w.heap.size, 0, none⟩ = some (.int .u8 15) := by rw [cell_of_row _ _ 0 _ _ _ R1.out]; rfl
  have k1 : w2.cell? ⟨w.heap.size, 1, none⟩ = some (.int .u8 t) := by rw [cell_of_row _ _ 1 _ _ _ R1.out]; rfl
  have k2 : w2.cell? ⟨w.heap.size, 2, none⟩ = some (.int .i64 a) := by rw [cell_of_row _ _ 2 _ _ _ R1.out]; rfl
  have k3 : w2.cell? ⟨w.heap.size, 3, none⟩ = some (.int .i64 n) := by rw [cell_of_row _ _ 3 _ _ _ R1.out]; rfl
  go_wp2_with fail
  refine (HJ.out _ _ MT.out).mono ?_
  rintro e W3 ⟨rfl, hb⟩
  have M3 := Fact.mk (MT.out.below hb)
  have R3 := Fact.mk ((hb.block w.heap.size L1).trans R1.out)
  have L3 : w.heap.size < W3.heap.size := Nat.lt_of_lt_of_le L1 hb.size
  have lX3 := M3.out.lt
  replace k0 := cell_below hb _ _ k0
  replace k1 := cell_below hb _ _ k1
  replace k2 := cell_below hb _ _ k2
  replace k3 := cell_below hb _ _ k3
  clear hb MT R1 Z1 HJ L1 c7 c8 f7 f8 lX
  have HQ := Fact.mk (fun W S (hm : MSt w0 W X c vs bs is now ⟨m.s, m.st, m.at_ + 1, m.steps + 1⟩ V B S) => pop_any w0 W X c vs bs is now _ V B S hm (by show m.st.length ≤ 1000; omega) s x hs)
  have HS := Fact.mk (show s.length ≤ 900 by have := congrArg List.length hs; simp at this; omega)
  have HP := Fact.mk (fun W S v (hm : MSt w0 W X c vs bs is now ⟨m.s, s, m.at_ + 1, m.steps + 1⟩ V B S) => push_any w0 W X c vs bs is now _ V B S hm (by have := HS.out; show (s).length ≤ 1000; omega) v)
  have cV : W3.cell? ⟨X, 4, none⟩ = some V := by rw [cell_of_row _ _ 4 _ _ _ M3.out.row]; rfl
  have cB : W3.cell? ⟨X, 5, none⟩ = some B := by rw [cell_of_row _ _ 5 _ _ _ M3.out.row]; rfl
  have cS : W3.cell? ⟨X, 6, none⟩ = some S := by rw [cell_of_row _ _ 6 _ _ _ M3.out.row]; rfl
  have d7 : W3.frozen? ⟨X, 7, none⟩ = false := frozen_of_row _ _ _ _ _ M3.out.row
  have c7 : W3.cell? ⟨X, 7, none⟩ = some (.int .i64 ((m.at_ + 1 : Nat) : Int)) := cell_of_row _ _ 7 _ _ _ M3.out.row
  have HN := Fact.mk (fun W => wrap_any t x W)
  go_wp2_with fail
  go_region_with (first | (go_at_call 80; refine (HQ.out _ _ (M3.out.below (Below.refl _ _).drew)).mono ?_; rintro e W4 ⟨rfl, S4, m4, kp4⟩; have j1 : W4.cell? ⟨w.heap.size, 1, none⟩ = some (.int .u8 t) := cell_of_row _ _ 1 _ _ _ (kp4.2 _ _ _ R3.out (by decide) (by decide))) | (go_at_call 19; refine (HN.out _).mono ?_; rintro e W5 ⟨rfl, rfl⟩) | (go_at_call 79; refine (HP.out _ _ _ (by assumption)).mono ?_; rintro e W6 ⟨rfl, S6, m6, -⟩))
  all_goals
    go_wp2
    go_end0
    exact ⟨rfl, S6, m6⟩
set_option maxHeartbeats 2000000 in
set_option maxRecDepth 100000 in
theorem step_16 (w0 w : World) (X : Nat) (c : GCode) (vs bs is : Value) (now : Int) (m : GMach) (V B S : Value) (h : MSt w0 w X c vs bs is now m V B S) (hl : m.st.length ≤ 900) (ha : m.at_ ≤ 100000) (hn : m.steps ≤ 100000) (t a n : Int) (s : List Int) (x : Int) (hs : m.st = s ++ [x]) :
    Calls Try.prog 48 #[.pointer (some ⟨X, 0, none⟩), .agg #[.int .u8 16, .int .u8 t, .int .i64 a, .int .i64 n]] w (StPost1 w0 X c vs bs is now ⟨m.s, m.st ++ [x], m.at_ + 1, m.steps + 1⟩ V B (.tuple #[])) := by
  obtain ⟨-, -, -, -, -, -, -, c7, c8, -, -, -, -, -, -, -, -, f7, f8, -⟩ := row10 h.row
  have lX := h.lt
  obtain ⟨b1, r1, z1⟩ := one_block ((w.setCell ⟨X, 8, none⟩ (.int .i64 ((m.steps : Int) + 1))).setCell ⟨X, 7, none⟩ (.int .i64 ((m.at_ : Int) + 1))) (.cells #[.int .u8 16, .int .u8 t, .int .i64 a, .int .i64 n] 49)
  have MT := Fact.mk (h.tick.below b1)
  simp only [World.size_setCell] at r1 b1 z1
  have R1 := Fact.mk r1
  have Z1 := Fact.mk z1
  have HJ := Fact.mk (fun W S (hm : MSt w0 W X c vs bs is now ⟨m.s, m.st, m.at_ + 1, m.steps + 1⟩ V B S) => joins_no w0 W X c vs bs is now _ V B S hm 16 t a n rfl)
  clear h b1 r1 z1
  go_enter Try.func48, Try.ntmps48
  go_upto_region 3 with (fail)
  generalize ((w.setCell ⟨X, 8, none⟩ (.int .i64 ((m.steps : Int) + 1))).setCell ⟨X, 7, none⟩ (.int .i64 ((m.at_ : Int) + 1))).alloc (.cells #[.int .u8 16, .int .u8 t, .int .i64 a, .int .i64 n] 49) = w2 at *
  have L1 : w.heap.size < w2.heap.size := by rw [Z1.out]; omega
  have k0 : w2.cell? ⟨w.heap.size, 0, none⟩ = some (.int .u8 16) := by rw [cell_of_row _ _ 0 _ _ _ R1.out]; rfl
  have k1 : w2.cell? ⟨w.heap.size, 1, none⟩ = some (.int .u8 t) := by rw [cell_of_row _ _ 1 _ _ _ R1.out]; rfl
  have k2 : w2.cell? ⟨w.heap.size, 2, none⟩ = some (.int .i64 a) := by rw [cell_of_row _ _ 2 _ _ _ R1.out]; rfl
  have k3 : w2.cell? ⟨w.heap.size, 3, none⟩ = some (.int .i64 n) := by rw [cell_of_row _ _ 3 _ _ _ R1.out]; rfl
  go_wp2_with fail
  refine (HJ.out _ _ MT.out).mono ?_
  rintro e W3 ⟨rfl, hb⟩
  have M3 := Fact.mk (MT.out.below hb)
  have R3 := Fact.mk ((hb.block w.heap.size L1).trans R1.out)
  have L3 : w.heap.size < W3.heap.size := Nat.lt_of_lt_of_le L1 hb.size
  have lX3 := M3.out.lt
  replace k0 := cell_below hb _ _ k0
  replace k1 := cell_below hb _ _ k1
  replace k2 := cell_below hb _ _ k2
  replace k3 := cell_below hb _ _ k3
  clear hb MT R1 Z1 HJ L1 c7 c8 f7 f8 lX
  have HS := Fact.mk hl
  have HP := Fact.mk (fun W S v (hm : MSt w0 W X c vs bs is now ⟨m.s, m.st, m.at_ + 1, m.steps + 1⟩ V B S) => push_any w0 W X c vs bs is now _ V B S hm (by have := HS.out; show (m.st).length ≤ 1000; omega) v)
  have hpos : 0 < m.st.length := by rw [hs]; simp
  have hsl : m.st.length = s.length + 1 := by rw [hs]; simp
  obtain ⟨AS, qS, rfl⟩ := M3.out.oS.slice2
  obtain ⟨g, rfl, _, _, _, cg, _⟩ := own_put M3.out.oS s.length (by show s.length < m.st.length; omega) 0
  have hx : m.st.getD s.length 0 = x := by rw [hs, List.getD_eq_getElem?_getD, List.getElem?_append_right (Nat.le_refl _), Nat.sub_self]; rfl
  rw [show (⟨m.s, m.st, m.at_ + 1, m.steps + 1⟩ : GMach).st.getD s.length 0 = x from hx] at cg
  have cV : W3.cell? ⟨X, 4, none⟩ = some V := by rw [cell_of_row _ _ 4 _ _ _ M3.out.row]; rfl
  have cB : W3.cell? ⟨X, 5, none⟩ = some B := by rw [cell_of_row _ _ 5 _ _ _ M3.out.row]; rfl
  have cS : W3.cell? ⟨X, 6, none⟩ = some (.slice (some ⟨g, 0, none⟩) m.st.length qS) := by rw [cell_of_row _ _ 6 _ _ _ M3.out.row]; rfl
  have d7 : W3.frozen? ⟨X, 7, none⟩ = false := frozen_of_row _ _ _ _ _ M3.out.row
  have c7 : W3.cell? ⟨X, 7, none⟩ = some (.int .i64 ((m.at_ + 1 : Nat) : Int)) := cell_of_row _ _ 7 _ _ _ M3.out.row
  rw [hsl] at cS
  have e0 : IntKind.i64.wrap (((s.length + 1 : Nat) : Int) - 1) = (s.length : Int) := by rw [IntKind.wrap_i64]; omega
  have e1 : ((s.length + 1 : Nat) : Int) - 1 = (s.length : Int) := by omega
  have i1 : s.length < s.length + 1 := by omega
  have i2 : s.length ≤ 900 := by omega
  have e2 : IntKind.i64.wrap (s.length : Int) = (s.length : Int) := by rw [IntKind.wrap_i64]; omega
  clear hs hx hsl
  go_wp2_with fail
  go_region_with (go_at_call 79; refine (HP.out _ _ _ (M3.out.below (Below.refl _ _).drew)).mono ?_; rintro e W4 ⟨rfl, S4, m4, -⟩)
  all_goals
    go_wp2
    go_end0
    exact ⟨rfl, S4, m4⟩
end Go.Proofs.Ytiogpainajokkaa

