/- BlocksBack: the walk. -/
import Derived.Test.YtjanofopmmndoaaLnew
namespace Go.Proofs.Ytjanofopmmndoaa
open Go.RowKit
set_option maxRecDepth 100000 in
set_option maxHeartbeats 4000000 in
theorem back_any (awk : ∀ w, Calls Try.prog 20 #[] w fun e w' => e = .returned (.bool true) ∧ Below w.heap.size w w') (at_ back later p : Int) (a1 : 0 ≤ at_) (a2 : at_ ≤ 4294967295) (b1 : 0 ≤ back) (b2 : back ≤ 4294967295) (l1 : 0 ≤ later) (l2 : later ≤ 65535) (p1 : 0 ≤ p) (p2 : p ≤ 4294967295) (w : World) :
    Calls Try.prog 9 #[.int .u32 at_, .int .u32 back, .int .u16 later, .int .u32 p] w fun e w' => e = .returned (.bool true) ∧ Below w.heap.size w w' := by
  have n1 := new_any 1 (by decide) (by decide)
  obtain ⟨t2, ht2⟩ : ∃ t2, at_ - back % (at_ + 1) = t2 := ⟨_, rfl⟩
  have hm1 : 0 ≤ back % (at_ + 1) := Int.emod_nonneg _ (by omega)
  have hm2 : back % (at_ + 1) < at_ + 1 := Int.emod_lt_of_pos _ (by omega)
  have t21 : 0 ≤ t2 := by omega
  have t22 : t2 ≤ at_ := by omega
  have T2 := Fact.mk ht2
  -- the three runs
  have r1 : runB (newB 1) [1, p] at_ = (tmB 1 true true at_ 0 (decide (p ≤ 0)), 0) := by
    have := run_ton (was := false) (going := false) (frm := 0) (et := 0) (q := false) ⟨.inl rfl, by omega, by omega, by omega, by omega, .inr rfl⟩ p1 p2 a1 (by omega : at_ ≤ 1125899906842624)
    rw [show (if (false : Bool) = true then (0 : Int) else at_) = at_ from rfl, show max (at_ - at_) 0 = 0 by omega, show min 0 p = 0 by omega] at this
    exact this
  have r2 : runB (tmB 1 true true at_ 0 (decide (p ≤ 0))) [1, p] t2 = (tmB 1 true true at_ 0 (decide (p ≤ 0)), 0) := by
    have := run_ton (was := true) (going := true) (frm := at_) (et := 0) (q := decide (p ≤ 0)) ⟨.inl rfl, by omega, by omega, by omega, by omega, .inl rfl⟩ p1 p2 t21 (by omega : t2 ≤ 1125899906842624)
    rw [show (if (true : Bool) = true then at_ else t2) = at_ from rfl, show max (t2 - at_) 0 = 0 by omega, show min 0 p = 0 by omega] at this
    exact this
  have r3 : runB (tmB 1 true true at_ 0 (decide (p ≤ 0))) [1, p] (at_ + later) = (tmB 1 true true at_ (min later p) (decide (p ≤ later)), 0) := by
    have := run_ton (was := true) (going := true) (frm := at_) (et := 0) (q := decide (p ≤ 0)) ⟨.inl rfl, by omega, by omega, by omega, by omega, .inl rfl⟩ p1 p2 (by omega : 0 ≤ at_ + later) (by omega : at_ + later ≤ 1125899906842624)
    rw [show (if (true : Bool) = true then at_ else at_ + later) = at_ from rfl, show max (at_ + later - at_) 0 = later by omega] at this
    exact this
  have o2 : outsB (tmB 1 true true at_ 0 (decide (p ≤ 0))) = [truthI (decide (p ≤ 0)), 0] := by
    rw [outs_tm ⟨.inl rfl, by omega, by omega, by omega, by omega, .inl rfl⟩]; rfl
  have o3 : outsB (tmB 1 true true at_ (min later p) (decide (p ≤ later))) = [truthI (decide (p ≤ later)), min later p] := by
    rw [outs_tm ⟨.inl rfl, by omega, by omega, by omega, by omega, .inl rfl⟩, show min (min later p) 4294967295 = min later p by omega]
  have R1 := Fact.mk r1
  have R2 := Fact.mk r2
  have R3 := Fact.mk r3
  have O2 := Fact.mk o2
  have O3 := Fact.mk o3
  clear r1 r2 r3 o2 o3 ht2 hm1 hm2
  unfold vBlk newB at n1
  go_enter Try.func9, Try.ntmps9
  go_wp2_with fail
  refine (n1 _).mono ?_
  rintro e W1 ⟨rfl, hb1⟩
  clear n1
  have h1 := one_block W1 (.cells #[.int .u8 1, .bool false, .bool false, .bool false, .bool false, .int .i64 0, .int .i64 0, .int .i64 0, .bool false, .bool false] 25)
  have B1 := Fact.mk (hb1.trans (h1.1.mono hb1.size))
  have K1 : Fact (BlkAt (W1.alloc (.cells #[.int .u8 1, .bool false, .bool false, .bool false, .bool false, .int .i64 0, .int .i64 0, .int .i64 0, .bool false, .bool false] 25)) W1.heap.size (newB 1)) := ⟨h1.2.1⟩
  have L1 := Fact.mk hb1.size
  clear hb1 h1
  go_wp2_with fail
  have x1 : wrap64 (at_ - back % (at_ + 1)) = t2 := by rw [T2.out]; unfold wrap64; omega
  have X1 := Fact.mk x1
  clear x1
  have s1 : (W1.alloc (.cells #[.int .u8 1, .bool false, .bool false, .bool false, .bool false, .int .i64 0, .int .i64 0, .int .i64 0, .bool false, .bool false] 25)).heap.size = W1.heap.size + 1 := by simp
  have j1 := lrun_new K1.out R1.out rfl (by simp)
  rw [s1] at j1
  refine j1.mono ?_
  clear j1 s1
  rintro e W2 ⟨v1, rfl, -, k2, g2, -⟩
  have B2 := Fact.mk (B1.out.trans (grown_Below g2 B1.out.size L1.out))
  have K2 := Fact.mk k2
  clear g2 k2
  go_wp2_with fail
  rw [X1.out]
  refine (lrun_new K2.out R2.out O2.out (by simp)).mono ?_
  rintro e W3 ⟨v2, rfl, rd2, k3, g3, fr3⟩
  have B3 := Fact.mk (B2.out.trans (grown_Below g3 B2.out.size L1.out))
  have K3 := Fact.mk k3
  have RD2 := Fact.mk rd2
  have FR3 := Fact.mk (LrunPost.fresh_ne fr3 K2.out)
  clear g3 k3 rd2 fr3
  go_wp2_with fail
  refine (lrun_new K3.out R3.out O3.out (by simp)).mono ?_
  rintro e W4 ⟨v3, rfl, rd3, k4, g4, fr4⟩
  have B4 := Fact.mk (B3.out.trans (grown_Below g4 B3.out.size L1.out))
  have rd2 := RD2.out.grown g4 FR3.out
  obtain ⟨y0, y1, y2, rfl, yc0, yc1⟩ := rd3.two64
  obtain ⟨z0, z1, z2, rfl, xc0, xc1⟩ := rd2.two64
  clear g4 k4 fr4 rd3 rd2 FR3 RD2 R1 R2 R3 O2 O3 K1 K2 K3 X1 T2
  by_cases hp : p = 0
  · have hpd : (p == 0) = true := beq_iff_eq.2 hp
    have hp0 : p ≤ 0 := by omega
    rcases (by omega : p < later ∨ p = later ∨ later < p) with hl | hl | hl
    · have hl2 : ¬ later < p := by omega
      have e0 : truthI (decide (p ≤ 0)) = 1 := by simp [truthI]; omega
      have e1 : truthI (decide (p ≤ later)) = 1 := by simp [truthI]; omega
      have e2 : min later p = p := by omega
      rw [e0] at xc0
      rw [e1] at yc0
      rw [e2] at yc1
      clear e0 e1 e2
      go_wp2_with fail
      refine (awk _).mono ?_
      rintro e W5 ⟨rfl, hb5⟩
      have B5 := Fact.mk (B4.out.trans (hb5.mono B4.out.size))
      clear hb5
      go_wp2_with fail
      go_ret
      exact ⟨ret_bool (by first | rfl | (simp; omega)), B5.out⟩
    · obtain rfl : later = p := by omega
      have e0 : truthI (decide (later ≤ 0)) = 1 := by simp [truthI]; omega
      have e1 : truthI (decide (later ≤ later)) = 1 := by simp [truthI]
      have e2 : min later later = later := by omega
      rw [e0] at xc0
      rw [e1] at yc0
      rw [e2] at yc1
      clear e0 e1 e2
      go_wp2_with fail
      refine (awk _).mono ?_
      rintro e W5 ⟨rfl, hb5⟩
      have B5 := Fact.mk (B4.out.trans (hb5.mono B4.out.size))
      clear hb5
      go_wp2_with fail
      go_ret
      exact ⟨ret_bool (by first | rfl | (simp; omega)), B5.out⟩
    · exfalso; omega
  · have hp0 : 0 < p := by omega
    have hpd : (p == 0) = false := beq_eq_false_iff_ne.2 hp
    rcases (by omega : p < later ∨ p = later ∨ later < p) with hl | hl | hl
    · have hl2 : ¬ later < p := by omega
      have e0 : truthI (decide (p ≤ 0)) = 0 := by simp [truthI]; omega
      have e1 : truthI (decide (p ≤ later)) = 1 := by simp [truthI]; omega
      have e2 : min later p = p := by omega
      rw [e0] at xc0
      rw [e1] at yc0
      rw [e2] at yc1
      clear e0 e1 e2
      go_wp2_with fail
      refine (awk _).mono ?_
      rintro e W5 ⟨rfl, hb5⟩
      have B5 := Fact.mk (B4.out.trans (hb5.mono B4.out.size))
      clear hb5
      go_wp2_with fail
      go_ret
      exact ⟨ret_bool (by first | rfl | (simp; omega)), B5.out⟩
    · obtain rfl : later = p := by omega
      have e0 : truthI (decide (later ≤ 0)) = 0 := by simp [truthI]; omega
      have e1 : truthI (decide (later ≤ later)) = 1 := by simp [truthI]
      have e2 : min later later = later := by omega
      rw [e0] at xc0
      rw [e1] at yc0
      rw [e2] at yc1
      clear e0 e1 e2
      go_wp2_with fail
      refine (awk _).mono ?_
      rintro e W5 ⟨rfl, hb5⟩
      have B5 := Fact.mk (B4.out.trans (hb5.mono B4.out.size))
      clear hb5
      go_wp2_with fail
      go_ret
      exact ⟨ret_bool (by first | rfl | (simp; omega)), B5.out⟩
    · have e0 : truthI (decide (p ≤ 0)) = 0 := by simp [truthI]; omega
      have e1 : truthI (decide (p ≤ later)) = 0 := by simp [truthI]; omega
      have e2 : min later p = later := by omega
      rw [e0] at xc0
      rw [e1] at yc0
      rw [e2] at yc1
      clear e0 e1 e2
      go_wp2_with fail
      refine (awk _).mono ?_
      rintro e W5 ⟨rfl, hb5⟩
      have B5 := Fact.mk (B4.out.trans (hb5.mono B4.out.size))
      clear hb5
      go_wp2_with fail
      go_ret
      exact ⟨ret_bool (by first | rfl | (simp; omega)), B5.out⟩
end Go.Proofs.Ytjanofopmmndoaa
