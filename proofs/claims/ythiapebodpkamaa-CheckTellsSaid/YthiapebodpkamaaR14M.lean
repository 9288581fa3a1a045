/- Contracts of blockhouseref14.same and blockhouseref14.effect. Printed by gen_ref14.py. -/
import Derived.Test.YthiapebodpkamaaEffA
import Derived.Test.YthiapebodpkamaaRfA
import Derived.Deep.RegionHeld3
import Derived.Test.YthiapebodpkamaaSpots
namespace Go.Proofs.Ythiapebodpkamaa
open Go.RowKit
set_option maxHeartbeats 400000 in
set_option maxRecDepth 100000 in
theorem rsame_any (w : World) (v1 v2 : Value) (xs ys : List Int) (h1 : Rd oneU8 1 w v1 xs) (h2 : Rd oneU8 1 w v2 ys) :
    Calls Try.prog 51 #[v1, v2] w fun e w' => e = .returned (.bool (decide (xs = ys))) ∧ Below w.heap.size w w' := by
  obtain ⟨l1, A1, c1, rfl, hc1, _, r1⟩ := h1
  obtain ⟨l2, A2, c2, rfl, hc2, _, r2⟩ := h2
  have R1 := Fact.mk r1
  have R2 := Fact.mk r2
  clear r1 r2
  by_cases hl : xs.length = ys.length
  · go_enter Try.func51, Try.ntmps51
    go_wp2_with fail
    go_loopw [5] (fun i wr => ∃ k : Nat, k ≤ xs.length ∧ i = .int .i64 k ∧ Fact (Below w.heap.size w wr ∧ xs.take k = ys.take k)) (fun i _ => xs.length - (intOf i).toNat)
    case atStart => exact ⟨0, Nat.zero_le _, rfl, ⟨⟨Below.refl _ _, rfl⟩⟩⟩
    case round =>
      obtain ⟨k, hk, rfl, hB⟩ := hrel
      by_cases hlt : k < xs.length
      · obtain ⟨b1, o1, rfl, q1⟩ := R1.out (by omega)
        obtain ⟨b2, o2, rfl, q2⟩ := R2.out (by omega)
        have p1 : wr.cell? ⟨b1, o1 + k, none⟩ = some (.int .u8 xs[k]) := by
          have := cell_below hB.out.1 _ _ (q1 k hlt 0 _ rfl)
          rwa [show o1 + k * 1 + 0 = o1 + k from by omega] at this
        have hlt2 : k < ys.length := by omega
        have p2 : wr.cell? ⟨b2, o2 + k, none⟩ = some (.int .u8 ys[k]) := by
          have := cell_below hB.out.1 _ _ (q2 k hlt2 0 _ rfl)
          rwa [show o2 + k * 1 + 0 = o2 + k from by omega] at this
        clear q1 q2
        have i1 : (k : Int) < (xs.length : Int) := by omega
        have i2 : (k : Int) < (ys.length : Int) := by omega
        go_wp2_with fail
        go_quiet (fail)
        have hB2 : Below w.heap.size w (wr.drewN nq) := hB.out.1.trans ⟨rfl, rfl, rfl, Nat.le_refl _, fun _ _ => rfl⟩
        have HB2 := Fact.mk hB2
        clear hB2 p1 p2
        by_cases he : xs[k] = ys[k]
        · have e1 : (xs[k] != ys[k]) = false := by simp [he]
          rw [e1]
          go_wp2_with fail
          go_roundw
          case rel =>
            refine ⟨k + 1, by omega, by go_num, ⟨⟨HB2.out, ?_⟩⟩⟩
            rw [List.take_succ_eq_append_getElem hlt, List.take_succ_eq_append_getElem hlt2, hB.out.2, he]
          case measure => simp [intOf]; omega
        · have e1 : (xs[k] != ys[k]) = true := by simpa using he
          rw [e1]
          go_wp2_with fail
          go_ret
          refine ⟨ret_bool ?_, HB2.out⟩
          exact (decide_eq_false (fun h => he (by subst h; rfl))).symm
      · obtain rfl : k = xs.length := by omega
        go_wp2_with fail
        go_ret
        refine ⟨ret_bool ?_, hB.out.1⟩
        have h := hB.out.2
        rw [List.take_length] at h
        rw [hl, List.take_length] at h
        exact (decide_eq_true h).symm
  · go_enter Try.func51, Try.ntmps51
    go_wp2_with fail
    go_ret
    refine ⟨ret_bool ?_, Below.refl _ _⟩
    exact (decide_eq_false (fun h => hl (by rw [h]))).symm
theorem tri3 (w : World) (o1 o2 o3 : Obj) : (((w.alloc o1).alloc o2).alloc o3).heap[w.heap.size + 1 + 1]? = some o3 ∧ Below w.heap.size w (((w.alloc o1).alloc o2).alloc o3) := by
  obtain ⟨_, rfl, h1, _, h2, h3, _⟩ := three_blocks w o1 o2 o3
  exact ⟨h3, h1⟩
theorem quad (w : World) (o1 o2 o3 o4 : Obj) : ((((w.alloc o1).alloc o2).alloc o3).alloc o4).heap[w.heap.size + 1 + 1]? = some o3 ∧ ((((w.alloc o1).alloc o2).alloc o3).alloc o4).heap[w.heap.size + 1 + 1 + 1]? = some o4 ∧ Below w.heap.size w ((((w.alloc o1).alloc o2).alloc o3).alloc o4) := by
  obtain ⟨h1, h2, h3, h4⟩ := two_blocks w o1 o2
  obtain ⟨g1, g2, g3, g4⟩ := two_blocks ((w.alloc o1).alloc o2) o3 o4
  exact ⟨by rw [← h4]; exact g2, by rw [← h4]; exact g3, h1.trans (g1.mono h1.size)⟩
theorem tri3d (w : World) (o1 o2 o3 : Obj) : (((w.alloc o1).alloc o2).alloc o3).drew.heap[w.heap.size + 1 + 1]? = some o3 ∧ Below w.heap.size w (((w.alloc o1).alloc o2).alloc o3).drew := by
  obtain ⟨h1, h2⟩ := tri3 w o1 o2 o3
  exact ⟨h1, h2.drew⟩
set_option maxRecDepth 100000 in
set_option maxHeartbeats 4000000 in
theorem rEff_1 (w : World) (c : GCode) (A1 A2 A3 : Option Addr) (c1 c2 c3 : Nat) (sv : Value) (t a n : Int) (s : List Int) (_hC : CodeRd w c (.slice A1 c.vars.length c1) (.slice A2 c.blocks.length c2) (.slice A3 c.ins.length c3)) (hs : Rd oneU8 1 w sv s) (_hf : fitsB c ⟨1, t, a, n⟩ = true) :
    Calls Try.prog 50 #[.agg #[.string c.name, .slice A1 c.vars.length c1, .slice A2 c.blocks.length c2, .slice A3 c.ins.length c3], .agg #[.int .u8 1, .int .u8 t, .int .i64 a, .int .i64 n], sv] w (EffPost w (effB c ⟨1, t, a, n⟩ s)) := by
  obtain ⟨A, c0, rfl⟩ : ∃ A c0, sv = .slice A s.length c0 := by
    obtain ⟨_, A, c0, e, _⟩ := hs
    exact ⟨A, c0, e⟩
  clear hs _hf _hC
  go_enter Try.func50, Try.ntmps50
  go_wp2_with fail
  go_ret2
  exact eff_puts (T := 22) (m1 := w.heap.size + 1 + 1) [t] rfl rfl (by simp) (tri3 w _ _ _).1 (tri3 w _ _ _).2
set_option maxRecDepth 100000 in
set_option maxHeartbeats 4000000 in
theorem rEff_4 (w : World) (c : GCode) (A1 A2 A3 : Option Addr) (c1 c2 c3 : Nat) (sv : Value) (t a n : Int) (s : List Int) (_hC : CodeRd w c (.slice A1 c.vars.length c1) (.slice A2 c.blocks.length c2) (.slice A3 c.ins.length c3)) (hs : Rd oneU8 1 w sv s) (_hf : fitsB c ⟨4, t, a, n⟩ = true) :
    Calls Try.prog 50 #[.agg #[.string c.name, .slice A1 c.vars.length c1, .slice A2 c.blocks.length c2, .slice A3 c.ins.length c3], .agg #[.int .u8 4, .int .u8 t, .int .i64 a, .int .i64 n], sv] w (EffPost w (effB c ⟨4, t, a, n⟩ s)) := by
  obtain ⟨A, c0, rfl⟩ : ∃ A c0, sv = .slice A s.length c0 := by
    obtain ⟨_, A, c0, e, _⟩ := hs
    exact ⟨A, c0, e⟩
  clear hs _hf _hC
  go_enter Try.func50, Try.ntmps50
  go_wp2_with fail
  go_ret2
  exact eff_pair (T := 22) (m1 := w.heap.size + 1 + 1) (m2 := w.heap.size + 1 + 1 + 1) [t, t] [t] rfl rfl (by simp) (by simp) (quad w _ _ _ _).1 (quad w _ _ _ _).2.1 (quad w _ _ _ _).2.2
set_option maxRecDepth 100000 in
set_option maxHeartbeats 4000000 in
theorem rEff_5 (w : World) (c : GCode) (A1 A2 A3 : Option Addr) (c1 c2 c3 : Nat) (sv : Value) (t a n : Int) (s : List Int) (_hC : CodeRd w c (.slice A1 c.vars.length c1) (.slice A2 c.blocks.length c2) (.slice A3 c.ins.length c3)) (hs : Rd oneU8 1 w sv s) (_hf : fitsB c ⟨5, t, a, n⟩ = true) :
    Calls Try.prog 50 #[.agg #[.string c.name, .slice A1 c.vars.length c1, .slice A2 c.blocks.length c2, .slice A3 c.ins.length c3], .agg #[.int .u8 5, .int .u8 t, .int .i64 a, .int .i64 n], sv] w (EffPost w (effB c ⟨5, t, a, n⟩ s)) := by
  obtain ⟨A, c0, rfl⟩ : ∃ A c0, sv = .slice A s.length c0 := by
    obtain ⟨_, A, c0, e, _⟩ := hs
    exact ⟨A, c0, e⟩
  clear hs _hf _hC
  go_enter Try.func50, Try.ntmps50
  go_wp2_with fail
  go_ret2
  exact eff_pair (T := 22) (m1 := w.heap.size + 1 + 1) (m2 := w.heap.size + 1 + 1 + 1) [t, t] [t] rfl rfl (by simp) (by simp) (quad w _ _ _ _).1 (quad w _ _ _ _).2.1 (quad w _ _ _ _).2.2
set_option maxRecDepth 100000 in
set_option maxHeartbeats 4000000 in
theorem rEff_6 (w : World) (c : GCode) (A1 A2 A3 : Option Addr) (c1 c2 c3 : Nat) (sv : Value) (t a n : Int) (s : List Int) (_hC : CodeRd w c (.slice A1 c.vars.length c1) (.slice A2 c.blocks.length c2) (.slice A3 c.ins.length c3)) (hs : Rd oneU8 1 w sv s) (_hf : fitsB c ⟨6, t, a, n⟩ = true) :
    Calls Try.prog 50 #[.agg #[.string c.name, .slice A1 c.vars.length c1, .slice A2 c.blocks.length c2, .slice A3 c.ins.length c3], .agg #[.int .u8 6, .int .u8 t, .int .i64 a, .int .i64 n], sv] w (EffPost w (effB c ⟨6, t, a, n⟩ s)) := by
  obtain ⟨A, c0, rfl⟩ : ∃ A c0, sv = .slice A s.length c0 := by
    obtain ⟨_, A, c0, e, _⟩ := hs
    exact ⟨A, c0, e⟩
  clear hs _hf _hC
  go_enter Try.func50, Try.ntmps50
  go_wp2_with fail
  go_ret2
  exact eff_pair (T := 22) (m1 := w.heap.size + 1 + 1) (m2 := w.heap.size + 1 + 1 + 1) [t, t] [t] rfl rfl (by simp) (by simp) (quad w _ _ _ _).1 (quad w _ _ _ _).2.1 (quad w _ _ _ _).2.2
set_option maxRecDepth 100000 in
set_option maxHeartbeats 4000000 in
theorem rEff_7 (w : World) (c : GCode) (A1 A2 A3 : Option Addr) (c1 c2 c3 : Nat) (sv : Value) (t a n : Int) (s : List Int) (_hC : CodeRd w c (.slice A1 c.vars.length c1) (.slice A2 c.blocks.length c2) (.slice A3 c.ins.length c3)) (hs : Rd oneU8 1 w sv s) (_hf : fitsB c ⟨7, t, a, n⟩ = true) :
    Calls Try.prog 50 #[.agg #[.string c.name, .slice A1 c.vars.length c1, .slice A2 c.blocks.length c2, .slice A3 c.ins.length c3], .agg #[.int .u8 7, .int .u8 t, .int .i64 a, .int .i64 n], sv] w (EffPost w (effB c ⟨7, t, a, n⟩ s)) := by
  obtain ⟨A, c0, rfl⟩ : ∃ A c0, sv = .slice A s.length c0 := by
    obtain ⟨_, A, c0, e, _⟩ := hs
    exact ⟨A, c0, e⟩
  clear hs _hf _hC
  go_enter Try.func50, Try.ntmps50
  go_wp2_with fail
  go_ret2
  exact eff_pair (T := 22) (m1 := w.heap.size + 1 + 1) (m2 := w.heap.size + 1 + 1 + 1) [t, t] [t] rfl rfl (by simp) (by simp) (quad w _ _ _ _).1 (quad w _ _ _ _).2.1 (quad w _ _ _ _).2.2
set_option maxRecDepth 100000 in
set_option maxHeartbeats 4000000 in
theorem rEff_8 (w : World) (c : GCode) (A1 A2 A3 : Option Addr) (c1 c2 c3 : Nat) (sv : Value) (t a n : Int) (s : List Int) (_hC : CodeRd w c (.slice A1 c.vars.length c1) (.slice A2 c.blocks.length c2) (.slice A3 c.ins.length c3)) (hs : Rd oneU8 1 w sv s) (_hf : fitsB c ⟨8, t, a, n⟩ = true) :
    Calls Try.prog 50 #[.agg #[.string c.name, .slice A1 c.vars.length c1, .slice A2 c.blocks.length c2, .slice A3 c.ins.length c3], .agg #[.int .u8 8, .int .u8 t, .int .i64 a, .int .i64 n], sv] w (EffPost w (effB c ⟨8, t, a, n⟩ s)) := by
  obtain ⟨A, c0, rfl⟩ : ∃ A c0, sv = .slice A s.length c0 := by
    obtain ⟨_, A, c0, e, _⟩ := hs
    exact ⟨A, c0, e⟩
  clear hs _hf _hC
  go_enter Try.func50, Try.ntmps50
  go_wp2_with fail
  go_ret2
  exact eff_pair (T := 22) (m1 := w.heap.size + 1 + 1) (m2 := w.heap.size + 1 + 1 + 1) [t, t] [t] rfl rfl (by simp) (by simp) (quad w _ _ _ _).1 (quad w _ _ _ _).2.1 (quad w _ _ _ _).2.2
set_option maxRecDepth 100000 in
set_option maxHeartbeats 4000000 in
theorem rEff_9 (w : World) (c : GCode) (A1 A2 A3 : Option Addr) (c1 c2 c3 : Nat) (sv : Value) (t a n : Int) (s : List Int) (_hC : CodeRd w c (.slice A1 c.vars.length c1) (.slice A2 c.blocks.length c2) (.slice A3 c.ins.length c3)) (hs : Rd oneU8 1 w sv s) (_hf : fitsB c ⟨9, t, a, n⟩ = true) :
    Calls Try.prog 50 #[.agg #[.string c.name, .slice A1 c.vars.length c1, .slice A2 c.blocks.length c2, .slice A3 c.ins.length c3], .agg #[.int .u8 9, .int .u8 t, .int .i64 a, .int .i64 n], sv] w (EffPost w (effB c ⟨9, t, a, n⟩ s)) := by
  obtain ⟨A, c0, rfl⟩ : ∃ A c0, sv = .slice A s.length c0 := by
    obtain ⟨_, A, c0, e, _⟩ := hs
    exact ⟨A, c0, e⟩
  clear hs _hf _hC
  go_enter Try.func50, Try.ntmps50
  go_wp2_with fail
  go_ret2
  exact eff_pair (T := 22) (m1 := w.heap.size + 1 + 1) (m2 := w.heap.size + 1 + 1 + 1) [t, t] [t] rfl rfl (by simp) (by simp) (quad w _ _ _ _).1 (quad w _ _ _ _).2.1 (quad w _ _ _ _).2.2
set_option maxRecDepth 100000 in
set_option maxHeartbeats 4000000 in
theorem rEff_10 (w : World) (c : GCode) (A1 A2 A3 : Option Addr) (c1 c2 c3 : Nat) (sv : Value) (t a n : Int) (s : List Int) (_hC : CodeRd w c (.slice A1 c.vars.length c1) (.slice A2 c.blocks.length c2) (.slice A3 c.ins.length c3)) (hs : Rd oneU8 1 w sv s) (_hf : fitsB c ⟨10, t, a, n⟩ = true) :
    Calls Try.prog 50 #[.agg #[.string c.name, .slice A1 c.vars.length c1, .slice A2 c.blocks.length c2, .slice A3 c.ins.length c3], .agg #[.int .u8 10, .int .u8 t, .int .i64 a, .int .i64 n], sv] w (EffPost w (effB c ⟨10, t, a, n⟩ s)) := by
  obtain ⟨A, c0, rfl⟩ : ∃ A c0, sv = .slice A s.length c0 := by
    obtain ⟨_, A, c0, e, _⟩ := hs
    exact ⟨A, c0, e⟩
  clear hs _hf _hC
  go_enter Try.func50, Try.ntmps50
  go_wp2_with fail
  go_ret2
  exact eff_pair (T := 22) (m1 := w.heap.size + 1 + 1) (m2 := w.heap.size + 1 + 1 + 1) [t, t] [t] rfl rfl (by simp) (by simp) (quad w _ _ _ _).1 (quad w _ _ _ _).2.1 (quad w _ _ _ _).2.2
set_option maxRecDepth 100000 in
set_option maxHeartbeats 4000000 in
theorem rEff_11 (w : World) (c : GCode) (A1 A2 A3 : Option Addr) (c1 c2 c3 : Nat) (sv : Value) (t a n : Int) (s : List Int) (_hC : CodeRd w c (.slice A1 c.vars.length c1) (.slice A2 c.blocks.length c2) (.slice A3 c.ins.length c3)) (hs : Rd oneU8 1 w sv s) (_hf : fitsB c ⟨11, t, a, n⟩ = true) :
    Calls Try.prog 50 #[.agg #[.string c.name, .slice A1 c.vars.length c1, .slice A2 c.blocks.length c2, .slice A3 c.ins.length c3], .agg #[.int .u8 11, .int .u8 t, .int .i64 a, .int .i64 n], sv] w (EffPost w (effB c ⟨11, t, a, n⟩ s)) := by
  obtain ⟨A, c0, rfl⟩ : ∃ A c0, sv = .slice A s.length c0 := by
    obtain ⟨_, A, c0, e, _⟩ := hs
    exact ⟨A, c0, e⟩
  clear hs _hf _hC
  go_enter Try.func50, Try.ntmps50
  go_wp2_with fail
  go_ret2
  exact eff_pair (T := 22) (m1 := w.heap.size + 1 + 1) (m2 := w.heap.size + 1 + 1 + 1) [t, t] [t] rfl rfl (by simp) (by simp) (quad w _ _ _ _).1 (quad w _ _ _ _).2.1 (quad w _ _ _ _).2.2
set_option maxRecDepth 100000 in
set_option maxHeartbeats 4000000 in
theorem rEff_12 (w : World) (c : GCode) (A1 A2 A3 : Option Addr) (c1 c2 c3 : Nat) (sv : Value) (t a n : Int) (s : List Int) (_hC : CodeRd w c (.slice A1 c.vars.length c1) (.slice A2 c.blocks.length c2) (.slice A3 c.ins.length c3)) (hs : Rd oneU8 1 w sv s) (_hf : fitsB c ⟨12, t, a, n⟩ = true) :
    Calls Try.prog 50 #[.agg #[.string c.name, .slice A1 c.vars.length c1, .slice A2 c.blocks.length c2, .slice A3 c.ins.length c3], .agg #[.int .u8 12, .int .u8 t, .int .i64 a, .int .i64 n], sv] w (EffPost w (effB c ⟨12, t, a, n⟩ s)) := by
  obtain ⟨A, c0, rfl⟩ : ∃ A c0, sv = .slice A s.length c0 := by
    obtain ⟨_, A, c0, e, _⟩ := hs
    exact ⟨A, c0, e⟩
  clear hs _hf _hC
  go_enter Try.func50, Try.ntmps50
  go_wp2_with fail
  go_ret2
  exact eff_pair (T := 22) (m1 := w.heap.size + 1 + 1) (m2 := w.heap.size + 1 + 1 + 1) [t] [t] rfl rfl (by simp) (by simp) (quad w _ _ _ _).1 (quad w _ _ _ _).2.1 (quad w _ _ _ _).2.2
set_option maxRecDepth 100000 in
set_option maxHeartbeats 4000000 in
theorem rEff_13 (w : World) (c : GCode) (A1 A2 A3 : Option Addr) (c1 c2 c3 : Nat) (sv : Value) (t a n : Int) (s : List Int) (_hC : CodeRd w c (.slice A1 c.vars.length c1) (.slice A2 c.blocks.length c2) (.slice A3 c.ins.length c3)) (hs : Rd oneU8 1 w sv s) (_hf : fitsB c ⟨13, t, a, n⟩ = true) :
    Calls Try.prog 50 #[.agg #[.string c.name, .slice A1 c.vars.length c1, .slice A2 c.blocks.length c2, .slice A3 c.ins.length c3], .agg #[.int .u8 13, .int .u8 t, .int .i64 a, .int .i64 n], sv] w (EffPost w (effB c ⟨13, t, a, n⟩ s)) := by
  obtain ⟨A, c0, rfl⟩ : ∃ A c0, sv = .slice A s.length c0 := by
    obtain ⟨_, A, c0, e, _⟩ := hs
    exact ⟨A, c0, e⟩
  clear hs _hf _hC
  go_enter Try.func50, Try.ntmps50
  go_wp2_with fail
  go_ret2
  exact eff_pair (T := 22) (m1 := w.heap.size + 1 + 1) (m2 := w.heap.size + 1 + 1 + 1) [t, t] [1] rfl rfl (by simp) (by simp) (quad w _ _ _ _).1 (quad w _ _ _ _).2.1 (quad w _ _ _ _).2.2
set_option maxRecDepth 100000 in
set_option maxHeartbeats 4000000 in
theorem rEff_14 (w : World) (c : GCode) (A1 A2 A3 : Option Addr) (c1 c2 c3 : Nat) (sv : Value) (t a n : Int) (s : List Int) (_hC : CodeRd w c (.slice A1 c.vars.length c1) (.slice A2 c.blocks.length c2) (.slice A3 c.ins.length c3)) (hs : Rd oneU8 1 w sv s) (_hf : fitsB c ⟨14, t, a, n⟩ = true) :
    Calls Try.prog 50 #[.agg #[.string c.name, .slice A1 c.vars.length c1, .slice A2 c.blocks.length c2, .slice A3 c.ins.length c3], .agg #[.int .u8 14, .int .u8 t, .int .i64 a, .int .i64 n], sv] w (EffPost w (effB c ⟨14, t, a, n⟩ s)) := by
  obtain ⟨A, c0, rfl⟩ : ∃ A c0, sv = .slice A s.length c0 := by
    obtain ⟨_, A, c0, e, _⟩ := hs
    exact ⟨A, c0, e⟩
  clear hs _hf _hC
  go_enter Try.func50, Try.ntmps50
  go_wp2_with fail
  go_ret2
  exact eff_pair (T := 22) (m1 := w.heap.size + 1 + 1) (m2 := w.heap.size + 1 + 1 + 1) [t, t] [1] rfl rfl (by simp) (by simp) (quad w _ _ _ _).1 (quad w _ _ _ _).2.1 (quad w _ _ _ _).2.2
set_option maxRecDepth 100000 in
set_option maxHeartbeats 4000000 in
theorem rEff_19 (w : World) (c : GCode) (A1 A2 A3 : Option Addr) (c1 c2 c3 : Nat) (sv : Value) (t a n : Int) (s : List Int) (_hC : CodeRd w c (.slice A1 c.vars.length c1) (.slice A2 c.blocks.length c2) (.slice A3 c.ins.length c3)) (hs : Rd oneU8 1 w sv s) (_hf : fitsB c ⟨19, t, a, n⟩ = true) :
    Calls Try.prog 50 #[.agg #[.string c.name, .slice A1 c.vars.length c1, .slice A2 c.blocks.length c2, .slice A3 c.ins.length c3], .agg #[.int .u8 19, .int .u8 t, .int .i64 a, .int .i64 n], sv] w (EffPost w (effB c ⟨19, t, a, n⟩ s)) := by
  obtain ⟨A, c0, rfl⟩ : ∃ A c0, sv = .slice A s.length c0 := by
    obtain ⟨_, A, c0, e, _⟩ := hs
    exact ⟨A, c0, e⟩
  clear hs _hf _hC
  go_enter Try.func50, Try.ntmps50
  go_wp2_with fail
  go_ret2
  exact eff_takes (T := 22) (m1 := w.heap.size + 1 + 1) [1] rfl rfl (by simp) (tri3 w _ _ _).1 (tri3 w _ _ _).2
set_option maxRecDepth 100000 in
set_option maxHeartbeats 4000000 in
theorem rEff_18 (w : World) (c : GCode) (A1 A2 A3 : Option Addr) (c1 c2 c3 : Nat) (sv : Value) (t a n : Int) (s : List Int) (_hC : CodeRd w c (.slice A1 c.vars.length c1) (.slice A2 c.blocks.length c2) (.slice A3 c.ins.length c3)) (hs : Rd oneU8 1 w sv s) (_hf : fitsB c ⟨18, t, a, n⟩ = true) :
    Calls Try.prog 50 #[.agg #[.string c.name, .slice A1 c.vars.length c1, .slice A2 c.blocks.length c2, .slice A3 c.ins.length c3], .agg #[.int .u8 18, .int .u8 t, .int .i64 a, .int .i64 n], sv] w (EffPost w (effB c ⟨18, t, a, n⟩ s)) := by
  obtain ⟨A, c0, rfl⟩ : ∃ A c0, sv = .slice A s.length c0 := by
    obtain ⟨_, A, c0, e, _⟩ := hs
    exact ⟨A, c0, e⟩
  clear hs _hf _hC
  go_enter Try.func50, Try.ntmps50
  go_wp2_with fail
  go_ret2
  exact ⟨_, _, rfl, rd_nil _ _ _, rd_nil _ _ _, (two_blocks w _ _).1⟩
set_option maxRecDepth 100000 in
set_option maxHeartbeats 4000000 in
theorem rEff_22 (w : World) (c : GCode) (A1 A2 A3 : Option Addr) (c1 c2 c3 : Nat) (sv : Value) (t a n : Int) (s : List Int) (_hC : CodeRd w c (.slice A1 c.vars.length c1) (.slice A2 c.blocks.length c2) (.slice A3 c.ins.length c3)) (hs : Rd oneU8 1 w sv s) (_hf : fitsB c ⟨22, t, a, n⟩ = true) :
    Calls Try.prog 50 #[.agg #[.string c.name, .slice A1 c.vars.length c1, .slice A2 c.blocks.length c2, .slice A3 c.ins.length c3], .agg #[.int .u8 22, .int .u8 t, .int .i64 a, .int .i64 n], sv] w (EffPost w (effB c ⟨22, t, a, n⟩ s)) := by
  obtain ⟨A, c0, rfl⟩ : ∃ A c0, sv = .slice A s.length c0 := by
    obtain ⟨_, A, c0, e, _⟩ := hs
    exact ⟨A, c0, e⟩
  clear hs _hf _hC
  go_enter Try.func50, Try.ntmps50
  go_wp2_with fail
  go_ret2
  exact ⟨_, _, rfl, rd_nil _ _ _, rd_nil _ _ _, (two_blocks w _ _).1⟩
set_option maxRecDepth 100000 in
set_option maxHeartbeats 4000000 in
theorem rEff_15 (w : World) (c : GCode) (A1 A2 A3 : Option Addr) (c1 c2 c3 : Nat) (sv : Value) (t a n : Int) (s : List Int) (_hC : CodeRd w c (.slice A1 c.vars.length c1) (.slice A2 c.blocks.length c2) (.slice A3 c.ins.length c3)) (hs : Rd oneU8 1 w sv s) (_hf : fitsB c ⟨15, t, a, n⟩ = true) :
    Calls Try.prog 50 #[.agg #[.string c.name, .slice A1 c.vars.length c1, .slice A2 c.blocks.length c2, .slice A3 c.ins.length c3], .agg #[.int .u8 15, .int .u8 t, .int .i64 a, .int .i64 n], sv] w (EffPost w (effB c ⟨15, t, a, n⟩ s)) := by
  obtain ⟨A, c0, rfl⟩ : ∃ A c0, sv = .slice A s.length c0 := by
    obtain ⟨_, A, c0, e, _⟩ := hs
    exact ⟨A, c0, e⟩
  clear hs _hf _hC
  go_enter Try.func50, Try.ntmps50
  go_wp2_with fail
  go_ret2
  exact eff_pair (T := 22) (m1 := w.heap.size + 1 + 1) (m2 := w.heap.size + 1 + 1 + 1) [a % 256] [t] rfl rfl (by simp) (by simp) (quad w _ _ _ _).1 (quad w _ _ _ _).2.1 (quad w _ _ _ _).2.2
set_option maxRecDepth 100000 in
set_option maxHeartbeats 4000000 in
theorem rEff_16 (w : World) (c : GCode) (A1 A2 A3 : Option Addr) (c1 c2 c3 : Nat) (sv : Value) (t a n : Int) (s : List Int) (_hC : CodeRd w c (.slice A1 c.vars.length c1) (.slice A2 c.blocks.length c2) (.slice A3 c.ins.length c3)) (hs : Rd oneU8 1 w sv s) (_hf : fitsB c ⟨16, t, a, n⟩ = true) :
    Calls Try.prog 50 #[.agg #[.string c.name, .slice A1 c.vars.length c1, .slice A2 c.blocks.length c2, .slice A3 c.ins.length c3], .agg #[.int .u8 16, .int .u8 t, .int .i64 a, .int .i64 n], sv] w (EffPost w (effB c ⟨16, t, a, n⟩ s)) := by
  clear _hf _hC
  cases s with
  | nil =>
    obtain ⟨A, c0, rfl⟩ : ∃ A c0, sv = .slice A 0 c0 := by
      obtain ⟨_, A, c0, e, _⟩ := hs
      exact ⟨A, c0, e⟩
    clear hs
    go_enter Try.func50, Try.ntmps50
    go_wp2_with fail
    go_ret2
    exact eff_pair (T := 22) (m1 := w.heap.size + 1 + 1) (m2 := w.heap.size + 1 + 1 + 1) [0] [0, 0] rfl rfl (by simp) (by simp) (quad w _ _ _ _).1 (quad w _ _ _ _).2.1 (quad w _ _ _ _).2.2
  | cons y l =>
    obtain ⟨b, off, c0, rfl, hc, hm⟩ := hs.last8 l.length (by simp)
    obtain ⟨x, hx⟩ : ∃ x, (y :: l).getLastD 0 = x := ⟨_, rfl⟩
    have he : effB c ⟨16, t, a, n⟩ (y :: l) = ([x], [x, x]) := by rw [← hx]; rfl
    rw [hx] at hc
    rw [he]
    have lb := World.block_lt_of_cell? w _ hc
    clear hs hx he
    go_enter Try.func50, Try.ntmps50
    go_wp2_with fail
    go_ret2
    exact eff_pair (T := 22) (m1 := w.heap.size + 1 + 1) (m2 := w.heap.size + 1 + 1 + 1) [x] [x, x] rfl rfl (by simp) (by simp) (quad w _ _ _ _).1 (quad w _ _ _ _).2.1 (quad w _ _ _ _).2.2
set_option maxRecDepth 100000 in
set_option maxHeartbeats 4000000 in
theorem rEff_17 (w : World) (c : GCode) (A1 A2 A3 : Option Addr) (c1 c2 c3 : Nat) (sv : Value) (t a n : Int) (s : List Int) (_hC : CodeRd w c (.slice A1 c.vars.length c1) (.slice A2 c.blocks.length c2) (.slice A3 c.ins.length c3)) (hs : Rd oneU8 1 w sv s) (_hf : fitsB c ⟨17, t, a, n⟩ = true) :
    Calls Try.prog 50 #[.agg #[.string c.name, .slice A1 c.vars.length c1, .slice A2 c.blocks.length c2, .slice A3 c.ins.length c3], .agg #[.int .u8 17, .int .u8 t, .int .i64 a, .int .i64 n], sv] w (EffPost w (effB c ⟨17, t, a, n⟩ s)) := by
  clear _hf _hC
  cases s with
  | nil =>
    obtain ⟨A, c0, rfl⟩ : ∃ A c0, sv = .slice A 0 c0 := by
      obtain ⟨_, A, c0, e, _⟩ := hs
      exact ⟨A, c0, e⟩
    clear hs
    go_enter Try.func50, Try.ntmps50
    go_wp2_with fail
    go_ret2
    exact eff_takes (T := 22) (m1 := w.heap.size + 1 + 1) [0] rfl rfl (by simp) (tri3 w _ _ _).1 (tri3 w _ _ _).2
  | cons y l =>
    obtain ⟨b, off, c0, rfl, hc, hm⟩ := hs.last8 l.length (by simp)
    obtain ⟨x, hx⟩ : ∃ x, (y :: l).getLastD 0 = x := ⟨_, rfl⟩
    have he : effB c ⟨17, t, a, n⟩ (y :: l) = ([x], []) := by rw [← hx]; rfl
    rw [hx] at hc
    rw [he]
    have lb := World.block_lt_of_cell? w _ hc
    clear hs hx he
    go_enter Try.func50, Try.ntmps50
    go_wp2_with fail
    go_ret2
    exact eff_takes (T := 22) (m1 := w.heap.size + 1 + 1) [x] rfl rfl (by simp) (tri3 w _ _ _).1 (tri3 w _ _ _).2
set_option maxRecDepth 100000 in
set_option maxHeartbeats 4000000 in
theorem rEff_2 (w : World) (c : GCode) (A1 A2 A3 : Option Addr) (c1 c2 c3 : Nat) (sv : Value) (t a n : Int) (s : List Int) (hC : CodeRd w c (.slice A1 c.vars.length c1) (.slice A2 c.blocks.length c2) (.slice A3 c.ins.length c3)) (hs : Rd oneU8 1 w sv s) (hf : fitsB c ⟨2, t, a, n⟩ = true) :
    Calls Try.prog 50 #[.agg #[.string c.name, .slice A1 c.vars.length c1, .slice A2 c.blocks.length c2, .slice A3 c.ins.length c3], .agg #[.int .u8 2, .int .u8 t, .int .i64 a, .int .i64 n], sv] w (EffPost w (effB c ⟨2, t, a, n⟩ s)) := by
  obtain ⟨A, c0, rfl⟩ : ∃ A c0, sv = .slice A s.length c0 := by
    obtain ⟨_, A, c0, e, _⟩ := hs
    exact ⟨A, c0, e⟩
  obtain ⟨a0, a1⟩ := fit_var hf (.inl rfl)
  replace a0 : 0 ≤ a := a0
  replace a1 : a < c.vars.length := a1
  obtain ⟨ka, rfl⟩ : ∃ k : Nat, a = k := ⟨a.toNat, by omega⟩
  have hka : ka < c.vars.length := by omega
  obtain ⟨l0, Av, cv, e, l1, -, hcl⟩ := hC.vars
  cases e
  obtain ⟨bv, ov, rfl, hcl2⟩ := hcl (by omega)
  obtain ⟨v, hv⟩ : ∃ v, c.vars[ka].ty = v := ⟨_, rfl⟩
  have ct := hcl2 ka hka 2 (.int .u8 c.vars[ka].ty) rfl
  rw [hv] at ct
  have hty : varTy c (ka : Int) = v := by simp only [varTy, Int.toNat_natCast, List.getElem?_eq_getElem hka, hv]
  have HTY := Fact.mk hty
  have lv := World.block_lt_of_cell? w _ ct
  clear hcl hcl2 hs hf hC hv hty
  go_enter Try.func50, Try.ntmps50
  go_wp2_with fail
  go_region_with (fail)
  all_goals go_wp2_with fail
  all_goals go_ret2
  all_goals refine eff_puts (T := 22) (m1 := w.heap.size + 1 + 1) [v] (by rw [← HTY.out]; rfl) rfl (by simp) ?_ ?_
  all_goals first
    | exact (tri3d w _ _ _).1
    | exact (tri3d w _ _ _).2
set_option maxRecDepth 100000 in
set_option maxHeartbeats 4000000 in
theorem rEff_3 (w : World) (c : GCode) (A1 A2 A3 : Option Addr) (c1 c2 c3 : Nat) (sv : Value) (t a n : Int) (s : List Int) (hC : CodeRd w c (.slice A1 c.vars.length c1) (.slice A2 c.blocks.length c2) (.slice A3 c.ins.length c3)) (hs : Rd oneU8 1 w sv s) (hf : fitsB c ⟨3, t, a, n⟩ = true) :
    Calls Try.prog 50 #[.agg #[.string c.name, .slice A1 c.vars.length c1, .slice A2 c.blocks.length c2, .slice A3 c.ins.length c3], .agg #[.int .u8 3, .int .u8 t, .int .i64 a, .int .i64 n], sv] w (EffPost w (effB c ⟨3, t, a, n⟩ s)) := by
  obtain ⟨A, c0, rfl⟩ : ∃ A c0, sv = .slice A s.length c0 := by
    obtain ⟨_, A, c0, e, _⟩ := hs
    exact ⟨A, c0, e⟩
  obtain ⟨a0, a1⟩ := fit_var hf (.inr rfl)
  replace a0 : 0 ≤ a := a0
  replace a1 : a < c.vars.length := a1
  obtain ⟨ka, rfl⟩ : ∃ k : Nat, a = k := ⟨a.toNat, by omega⟩
  have hka : ka < c.vars.length := by omega
  obtain ⟨l0, Av, cv, e, l1, -, hcl⟩ := hC.vars
  cases e
  obtain ⟨bv, ov, rfl, hcl2⟩ := hcl (by omega)
  obtain ⟨v, hv⟩ : ∃ v, c.vars[ka].ty = v := ⟨_, rfl⟩
  have ct := hcl2 ka hka 2 (.int .u8 c.vars[ka].ty) rfl
  rw [hv] at ct
  have hty : varTy c (ka : Int) = v := by simp only [varTy, Int.toNat_natCast, List.getElem?_eq_getElem hka, hv]
  have HTY := Fact.mk hty
  have lv := World.block_lt_of_cell? w _ ct
  clear hcl hcl2 hs hf hC hv hty
  go_enter Try.func50, Try.ntmps50
  go_wp2_with fail
  go_ret2
  exact eff_takes (T := 22) (m1 := w.heap.size + 1 + 1) [v] (by rw [← HTY.out]; rfl) rfl (by simp) (tri3 w _ _ _).1 (tri3 w _ _ _).2
end Go.Proofs.Ythiapebodpkamaa

namespace Go.Proofs.Ythiapebodpkamaa
open Go.RowKit
set_option maxRecDepth 100000 in
set_option maxHeartbeats 4000000 in
theorem rEff_20 (w : World) (c : GCode) (A1 A2 A3 : Option Addr) (c1 c2 c3 : Nat) (sv : Value) (t a n : Int) (s : List Int) (hC : CodeRd w c (.slice A1 c.vars.length c1) (.slice A2 c.blocks.length c2) (.slice A3 c.ins.length c3)) (hs : Rd oneU8 1 w sv s) (hf : fitsB c ⟨20, t, a, n⟩ = true) :
    Calls Try.prog 50 #[.agg #[.string c.name, .slice A1 c.vars.length c1, .slice A2 c.blocks.length c2, .slice A3 c.ins.length c3], .agg #[.int .u8 20, .int .u8 t, .int .i64 a, .int .i64 n], sv] w (EffPost w (effB c ⟨20, t, a, n⟩ s)) := by
  obtain ⟨A, c0, rfl⟩ : ∃ A c0, sv = .slice A s.length c0 := by
    obtain ⟨_, A, c0, e, _⟩ := hs
    exact ⟨A, c0, e⟩
  obtain ⟨a0, a1⟩ := fit_block hf (.inl rfl)
  replace a0 : 0 ≤ a := a0
  replace a1 : a < c.blocks.length := a1
  obtain ⟨ka, rfl⟩ : ∃ k : Nat, a = k := ⟨a.toNat, by omega⟩
  have hka : ka < c.blocks.length := by omega
  obtain ⟨bv, ov, cv, e, ct, l0, l1⟩ := hC.blocks.at8 ka hka
  cases e
  obtain ⟨kk, hkk⟩ : ∃ kk, c.blocks[ka] = kk := ⟨_, rfl⟩
  rw [hkk] at ct
  have hd : c.blocks.getD ((ka : Int)).toNat 0 = kk := by rw [Int.toNat_natCast, List.getD_eq_getElem?_getD, List.getElem?_eq_getElem hka, ← hkk]; rfl
  have lv := World.block_lt_of_cell? w _ ct
  have he : effB c ⟨20, t, (ka : Int), n⟩ s = (pinsIn kk, []) := by show (pinsIn (c.blocks.getD ((ka : Int)).toNat 0), _) = _; rw [hd]
  rw [he]
  clear hs hf hC hd hkk he
  go_enter Try.func50, Try.ntmps50
  go_wp2_with fail
  refine (rPins_any kk _).mono ?_
  rintro e W1 ⟨v1, v2, rfl, hr1, hr2, hb1⟩
  have B1 := Fact.mk ((two_blocks w _ _).1.trans (hb1.mono (two_blocks w _ _).1.size))
  obtain ⟨X1, x1, y1, rfl⟩ : ∃ A q c', v1 = .slice A q c' := by obtain ⟨_, A, c', h, _⟩ := hr1; exact ⟨A, _, c', h⟩
  obtain ⟨X2, x2, y2, rfl⟩ : ∃ A q c', v2 = .slice A q c' := by obtain ⟨_, A, c', h, _⟩ := hr2; exact ⟨A, _, c', h⟩
  have R1 := Fact.mk hr1
  clear hr1 hr2 hb1
  go_wp2_with fail
  go_ret2
  exact ⟨_, _, rfl, R1.out, rd_nil _ _ _, B1.out⟩
set_option maxRecDepth 100000 in
set_option maxHeartbeats 4000000 in
theorem rEff_21 (w : World) (c : GCode) (A1 A2 A3 : Option Addr) (c1 c2 c3 : Nat) (sv : Value) (t a n : Int) (s : List Int) (hC : CodeRd w c (.slice A1 c.vars.length c1) (.slice A2 c.blocks.length c2) (.slice A3 c.ins.length c3)) (hs : Rd oneU8 1 w sv s) (hf : fitsB c ⟨21, t, a, n⟩ = true) :
    Calls Try.prog 50 #[.agg #[.string c.name, .slice A1 c.vars.length c1, .slice A2 c.blocks.length c2, .slice A3 c.ins.length c3], .agg #[.int .u8 21, .int .u8 t, .int .i64 a, .int .i64 n], sv] w (EffPost w (effB c ⟨21, t, a, n⟩ s)) := by
  obtain ⟨A, c0, rfl⟩ : ∃ A c0, sv = .slice A s.length c0 := by
    obtain ⟨_, A, c0, e, _⟩ := hs
    exact ⟨A, c0, e⟩
  obtain ⟨n0, n1⟩ := fit_pin hf rfl
  replace n0 : 0 ≤ n := n0
  replace n1 : n < (pinsOut (c.blocks.getD a.toNat 0)).length := n1
  obtain ⟨a0, a1⟩ := fit_block hf (.inr rfl)
  replace a0 : 0 ≤ a := a0
  replace a1 : a < c.blocks.length := a1
  obtain ⟨ka, rfl⟩ : ∃ k : Nat, a = k := ⟨a.toNat, by omega⟩
  have hka : ka < c.blocks.length := by omega
  obtain ⟨bv, ov, cv, e, ct, l0, l1⟩ := hC.blocks.at8 ka hka
  cases e
  obtain ⟨kk, hkk⟩ : ∃ kk, c.blocks[ka] = kk := ⟨_, rfl⟩
  rw [hkk] at ct
  have hd : c.blocks.getD ((ka : Int)).toNat 0 = kk := by rw [Int.toNat_natCast, List.getD_eq_getElem?_getD, List.getElem?_eq_getElem hka, ← hkk]; rfl
  have lv := World.block_lt_of_cell? w _ ct
  rw [hd] at n1
  obtain ⟨kn, rfl⟩ : ∃ k : Nat, n = k := ⟨n.toNat, by omega⟩
  have hkn : kn < (pinsOut kk).length := by omega
  have he : effB c ⟨21, t, (ka : Int), (kn : Int)⟩ s = ([], [(pinsOut kk)[kn]]) := by
    show ([], [pinTy (c.blocks.getD ((ka : Int)).toNat 0) (kn : Int)]) = _
    rw [hd]
    simp only [pinTy, Int.toNat_natCast, List.getD_eq_getElem?_getD, List.getElem?_eq_getElem hkn]
    rfl
  rw [he]
  clear hs hf hC hd hkk he
  go_enter Try.func50, Try.ntmps50
  go_wp2_with fail
  refine (rPins_any kk _).mono ?_
  rintro e W1 ⟨v1, v2, rfl, hr1, hr2, hb1⟩
  have B1 := Fact.mk ((two_blocks w _ _).1.trans (hb1.mono (two_blocks w _ _).1.size))
  obtain ⟨X1, x1, y1, rfl⟩ : ∃ A q c', v1 = .slice A q c' := by obtain ⟨_, A, c', h, _⟩ := hr1; exact ⟨A, _, c', h⟩
  obtain ⟨X2, x2, y2, e2, cz, g0, g1⟩ := hr2.at8 kn hkn
  cases e2
  obtain ⟨m, hm⟩ : ∃ m, (pinsOut kk).length = m := ⟨_, rfl⟩
  obtain ⟨z, hz⟩ : ∃ z, (pinsOut kk)[kn] = z := ⟨_, rfl⟩
  rw [hz] at cz
  have HZ := Fact.mk hz
  have hkm : kn < m := by rw [← hm]; exact hkn
  rw [hm]
  have p0 : ((w.alloc (.cells #[.string c.name, .slice A1 c.vars.length c1, .slice (some ⟨bv, ov, none⟩) c.blocks.length c2, .slice A3 c.ins.length c3] 32)).alloc (.cells #[.int .u8 21, .int .u8 t, .int .i64 (ka : Int), .int .i64 (kn : Int)] 38)).heap[w.heap.size + 1]? = some (.cells #[.int .u8 21, .int .u8 t, .int .i64 (ka : Int), .int .i64 (kn : Int)] 38 (0, 0)) := (two_blocks w _ _).2.2.1
  have p1 := (hb1.block (w.heap.size + 1) (by rw [(two_blocks w _ _).2.2.2]; omega)).trans p0
  have c3' : W1.cell? ⟨w.heap.size + 1, 3, none⟩ = some (.int .i64 (kn : Int)) := by rw [cell_of_row _ _ 3 _ _ _ p1]; rfl
  have i9 : (kn : Int) < (m : Int) := by omega
  have m9 : m ≤ 9223372036854775807 := by rw [← hm]; exact g0
  have l9 : w.heap.size + 1 < W1.heap.size := World.block_lt_of_cell? W1 _ c3'
  have l8 := World.block_lt_of_cell? W1 _ cz
  clear hr1 hr2 hb1 p0 p1 hz
  go_wp2_with fail
  go_region_with (fail)
  all_goals go_wp2_with fail
  all_goals go_ret2
  all_goals rw [HZ.out]
  all_goals refine eff_puts (T := 22) (m1 := W1.heap.size) [z] rfl rfl (by simp) ?_ ?_
  all_goals first
    | exact (one_block W1 _).2.1
    | exact (B1.out.trans ((one_block W1 _).1.mono B1.out.size)).drew
theorem rEff_any (w : World) (c : GCode) (vs bs is sv : Value) (i : GIns) (s : List Int) (hC : CodeRd w c vs bs is) (hs : Rd oneU8 1 w sv s) (hf : fitsB c i = true) (hg : 1 ≤ i.op ∧ i.op ≤ 22) :
    Calls Try.prog 50 #[.agg #[.string c.name, vs, bs, is], .agg #[.int .u8 i.op, .int .u8 i.t, .int .i64 i.a, .int .i64 i.n], sv] w (EffPost w (effB c i s)) := by
  obtain ⟨A1, c1, rfl⟩ : ∃ A c', vs = .slice A c.vars.length c' := by obtain ⟨_, A, c', h, _⟩ := hC.vars; exact ⟨A, c', h⟩
  obtain ⟨A2, c2, rfl⟩ : ∃ A c', bs = .slice A c.blocks.length c' := by obtain ⟨_, A, c', h, _⟩ := hC.blocks; exact ⟨A, c', h⟩
  obtain ⟨A3, c3, rfl⟩ : ∃ A c', is = .slice A c.ins.length c' := by obtain ⟨_, A, c', h, _⟩ := hC.ins; exact ⟨A, c', h⟩
  obtain ⟨op, t, a, n⟩ := i
  by_cases k1 : op = 1
  · subst k1; exact rEff_1 w c A1 A2 A3 c1 c2 c3 sv t a n s hC hs hf
  by_cases k2 : op = 2
  · subst k2; exact rEff_2 w c A1 A2 A3 c1 c2 c3 sv t a n s hC hs hf
  by_cases k3 : op = 3
  · subst k3; exact rEff_3 w c A1 A2 A3 c1 c2 c3 sv t a n s hC hs hf
  by_cases k4 : op = 4
  · subst k4; exact rEff_4 w c A1 A2 A3 c1 c2 c3 sv t a n s hC hs hf
  by_cases k5 : op = 5
  · subst k5; exact rEff_5 w c A1 A2 A3 c1 c2 c3 sv t a n s hC hs hf
  by_cases k6 : op = 6
  · subst k6; exact rEff_6 w c A1 A2 A3 c1 c2 c3 sv t a n s hC hs hf
  by_cases k7 : op = 7
  · subst k7; exact rEff_7 w c A1 A2 A3 c1 c2 c3 sv t a n s hC hs hf
  by_cases k8 : op = 8
  · subst k8; exact rEff_8 w c A1 A2 A3 c1 c2 c3 sv t a n s hC hs hf
  by_cases k9 : op = 9
  · subst k9; exact rEff_9 w c A1 A2 A3 c1 c2 c3 sv t a n s hC hs hf
  by_cases k10 : op = 10
  · subst k10; exact rEff_10 w c A1 A2 A3 c1 c2 c3 sv t a n s hC hs hf
  by_cases k11 : op = 11
  · subst k11; exact rEff_11 w c A1 A2 A3 c1 c2 c3 sv t a n s hC hs hf
  by_cases k12 : op = 12
  · subst k12; exact rEff_12 w c A1 A2 A3 c1 c2 c3 sv t a n s hC hs hf
  by_cases k13 : op = 13
  · subst k13; exact rEff_13 w c A1 A2 A3 c1 c2 c3 sv t a n s hC hs hf
  by_cases k14 : op = 14
  · subst k14; exact rEff_14 w c A1 A2 A3 c1 c2 c3 sv t a n s hC hs hf
  by_cases k15 : op = 15
  · subst k15; exact rEff_15 w c A1 A2 A3 c1 c2 c3 sv t a n s hC hs hf
  by_cases k16 : op = 16
  · subst k16; exact rEff_16 w c A1 A2 A3 c1 c2 c3 sv t a n s hC hs hf
  by_cases k17 : op = 17
  · subst k17; exact rEff_17 w c A1 A2 A3 c1 c2 c3 sv t a n s hC hs hf
  by_cases k18 : op = 18
  · subst k18; exact rEff_18 w c A1 A2 A3 c1 c2 c3 sv t a n s hC hs hf
  by_cases k19 : op = 19
  · subst k19; exact rEff_19 w c A1 A2 A3 c1 c2 c3 sv t a n s hC hs hf
  by_cases k20 : op = 20
  · subst k20; exact rEff_20 w c A1 A2 A3 c1 c2 c3 sv t a n s hC hs hf
  by_cases k21 : op = 21
  · subst k21; exact rEff_21 w c A1 A2 A3 c1 c2 c3 sv t a n s hC hs hf
  by_cases k22 : op = 22
  · subst k22; exact rEff_22 w c A1 A2 A3 c1 c2 c3 sv t a n s hC hs hf
  exact absurd hg (by show ¬ (1 ≤ op ∧ op ≤ 22); omega)
end Go.Proofs.Ythiapebodpkamaa

namespace Go.Proofs.Ythiapebodpkamaa
open Go.RowKit
def oneI64 (x : Int) : List Value := [.int .i64 x]
theorem oneI64_len (x : Int) : (oneI64 x).length = 1 := rfl
theorem oneI64_one (x : Int) : ∀ u ∈ oneI64 x, u.oneCell' = true := by intro u hu; simp only [oneI64, List.mem_cons, List.not_mem_nil, or_false] at hu; subst hu; rfl
def goAll (st : List Int) (n : Int) : List Nat → List GSpot → List GSpot × Int
  | [], ss => (ss, 0)
  | t :: l, ss => if goesOk ss t st = true then goAll st n l (goesTo ss t st n) else (ss, 140)
def outsI (i : GIns) (k : Nat) : List Nat := (if jumpsB i = true then [i.a.toNat] else []) ++ (if staysB i = true then [k + 1] else [])
theorem one_goAll {i : GIns} {s : GSpot} {k : Nat} {e : List Int × List Int} {ss : List GSpot} (h : (jumpsB i && decide (i.a ≤ k)) = false) (h2 : takesOk s.stack e.1 = true) (h3 : (decide (64 < (nextB s.stack e).length) || (decide (i.op = 22) && decide (0 < (nextB s.stack e).length))) = false) :
    (oneIns i s k e ss).2 = (goAll (nextB s.stack e) (s.steps + 1) (outsI i k) ss).2 ∧ ((oneIns i s k e ss).2 = 0 → (oneIns i s k e ss).1 = (goAll (nextB s.stack e) (s.steps + 1) (outsI i k) ss).1) := by
  unfold outsI
  cases hj : jumpsB i with
  | false =>
    rw [one_rest h h2 h3 (by rw [hj]; rfl), hj]
    cases hs : staysB i with
    | false => simp [goAll]
    | true =>
      by_cases hg : goesOk ss (k + 1) (nextB s.stack e) = true
      · simp [goAll, hg]
      · simp [goAll, hg]
  | true =>
    cases hg1 : goesOk ss i.a.toNat (nextB s.stack e) with
    | false =>
      rw [one_jump h h2 h3 hj hg1]
      simp [goAll, hg1]
    | true =>
      rw [one_rest h h2 h3 (by rw [hj, hg1]; rfl), hj]
      cases hs : staysB i with
      | false => simp [goAll, hg1]
      | true =>
        by_cases hg : goesOk (goesTo ss i.a.toNat (nextB s.stack e) (s.steps + 1)) (k + 1) (nextB s.stack e) = true
        · simp [goAll, hg1, hg]
        · simp [goAll, hg1, hg]
/-- On the way: the places so far, of a right program. -/
structure RSp (w W : World) (S : Nat) (c : GCode) (A1 A2 A3 : Option Addr) (c1 c2 c3 k : Nat) (ss : List GSpot) : Prop where
  old : CodeRd w c (.slice A1 c.vars.length c1) (.slice A2 c.blocks.length c2) (.slice A3 c.ins.length c3)
  row : W.heap[w.heap.size]? = some (.cells #[.string c.name, .slice A1 c.vars.length c1, .slice A2 c.blocks.length c2, .slice A3 c.ins.length c3] 32 (0, 0))
  bel : Below w.heap.size w W
  lo : w.heap.size < S
  pl : Places W S ss
  ok : PlcOk c ss
  k1 : k ≤ c.ins.length + 1
  right : rightB c = true
  walk : walkB c (c.ins.length + 1) 0 (start c.ins.length) = walkB c (c.ins.length + 1 - k) k ss
theorem RSp.spots {w W : World} {S : Nat} {c : GCode} {A1 A2 A3 : Option Addr} {c1 c2 c3 k : Nat} {ss : List GSpot} (h : RSp w W S c A1 A2 A3 c1 c2 c3 k ss) : spotsB c = walkB c (c.ins.length + 1 - k) k ss := by
  unfold spotsB
  rw [if_pos h.right]; exact h.walk
theorem RSp.below {w W W' : World} {S : Nat} {c : GCode} {A1 A2 A3 : Option Addr} {c1 c2 c3 k : Nat} {ss : List GSpot} (h : RSp w W S c A1 A2 A3 c1 c2 c3 k ss) (hb : Below W.heap.size W W') : RSp w W' S c A1 A2 A3 c1 c2 c3 k ss :=
  ⟨h.old, by rw [hb.block _ (Array.getElem?_eq_some_iff.1 h.row).1]; exact h.row, h.bel.trans (hb.mono h.bel.size), h.lo, h.pl.below hb, h.ok, h.k1, h.right, h.walk⟩
theorem RSp.next {w W : World} {S : Nat} {c : GCode} {A1 A2 A3 : Option Addr} {c1 c2 c3 k : Nat} {ss ss' : List GSpot} (h : RSp w W S c A1 A2 A3 c1 c2 c3 k ss) (hs : stepAt c ss k = (ss', 0)) (hk : k ≤ c.ins.length) {W' : World} (hg : W.grownBy W' (some S)) (hp : Places W' S ss') : RSp w W' S c A1 A2 A3 c1 c2 c3 (k + 1) ss' := by
  refine ⟨h.old, ?_, h.bel.grown hg h.bel.size (fun j hj => by cases hj; exact Nat.le_of_lt h.lo), h.lo, hp, ?_, by omega, h.right, h.walk.trans (walk_next (by omega) hs)⟩
  · rw [hg.block _ (Array.getElem?_eq_some_iff.1 h.row).1 (fun e => Nat.ne_of_lt h.lo (by cases e; rfl))]; exact h.row
  · have := plc_step (k := k) h.ok (by rw [hs])
    rwa [hs] at this
theorem RSp.stay {w W : World} {S : Nat} {c : GCode} {A1 A2 A3 : Option Addr} {c1 c2 c3 k : Nat} {ss : List GSpot} (h : RSp w W S c A1 A2 A3 c1 c2 c3 k ss) (hs : stepAt c ss k = (ss, 0)) (hk : k ≤ c.ins.length) {W' : World} (hb : Below W.heap.size W W') : RSp w W' S c A1 A2 A3 c1 c2 c3 (k + 1) ss :=
  ⟨h.old, (h.below hb).row, (h.below hb).bel, h.lo, (h.below hb).pl, h.ok, by omega, h.right, h.walk.trans (walk_next (by omega) hs)⟩
theorem RSp.bad {w W W3 : World} {S : Nat} {c : GCode} {A1 A2 A3 : Option Addr} {c1 c2 c3 k : Nat} {ss : List GSpot} {er : Int} (h : RSp w W S c A1 A2 A3 c1 c2 c3 k ss) (hk : k ≤ c.ins.length) (hs : (stepAt c ss k).2 = er) (h0 : er ≠ 0) (hb : Below w.heap.size w W3) : SpotsPost c w (.returned (.tuple #[.slice none 0 0, .int .i64 (k : Int), .int .i64 er])) W3 := by
  have e : spotsB c = ([], k, er) := by
    rw [h.spots, show c.ins.length + 1 - k = (c.ins.length - k) + 1 by omega, walkB, hs, if_neg h0]
  unfold SpotsPost
  rw [e]
  exact ⟨_, rfl, .inl ⟨rfl, rfl⟩, hb⟩
theorem RSp.fin {w W : World} {S : Nat} {c : GCode} {A1 A2 A3 : Option Addr} {c1 c2 c3 : Nat} {ss : List GSpot} (h : RSp w W S c A1 A2 A3 c1 c2 c3 (c.ins.length + 1) ss) : SpotsPost c w (.returned (.tuple #[.slice (some ⟨S, 0, none⟩) ss.length ss.length, .int .i64 0, .int .i64 0])) W := by
  have e : spotsB c = (ss, 0, 0) := by rw [h.spots, Nat.sub_self]; rfl
  unfold SpotsPost
  rw [e]
  exact ⟨_, rfl, .inr ⟨S, Nat.le_of_lt h.lo, rfl, h.pl⟩, h.bel⟩
theorem jumps_cases {i : GIns} (h : jumpsB i = true) : i.op = 18 ∨ i.op = 19 := by
  unfold jumpsB at h
  simpa using h
theorem outs_le {c : GCode} {i : GIns} {k : Nat} (hf : fitsB c i = true) (hk : k < c.ins.length) : ∀ x ∈ outsI i k, x < c.ins.length + 1 := by
  intro x hx
  unfold outsI at hx
  rcases List.mem_append.1 hx with h | h
  · cases hj : jumpsB i with
    | false => rw [hj] at h; simp at h
    | true =>
      rw [hj] at h
      obtain ⟨a0, a1⟩ := fit_jump hf (jumps_cases hj)
      simp at h
      omega
  · cases hs : staysB i with
    | false => rw [hs] at h; simp at h
    | true => rw [hs] at h; simp at h; omega
theorem outs_len (i : GIns) (k : Nat) : (outsI i k).length ≤ 2 := by
  unfold outsI
  split <;> split <;> simp
def natI (x : Nat) : Int := (x : Int)
def outJ (J : Bool) (a : Int) : List Int := if J = true then [a] else []
theorem outs_map {c : GCode} {i : GIns} {k : Nat} (hf : fitsB c i = true) : (outsI i k).map natI = outJ (jumpsB i) i.a ++ outJ (staysB i) ((k : Int) + 1) := by
  have e2 : natI (k + 1) = (k : Int) + 1 := by unfold natI; omega
  unfold outsI outJ
  cases hj : jumpsB i with
  | false => cases staysB i <;> simp [e2]
  | true =>
    obtain ⟨a0, a1⟩ := fit_jump hf (jumps_cases hj)
    have e : natI i.a.toNat = i.a := by unfold natI; omega
    cases staysB i <;> simp [e, e2]
/-- On the way through the places gone on to. -/
structure Inr (W7 W : World) (S : Nat) (nx : List Int) (n : Int) (L : List Nat) (ss : List GSpot) (v7 v8 : Value) (j : Nat) (sj : List GSpot) : Prop where
  grown : W7.grownBy W (some S)
  pl : Places W S sj
  len : sj.length = ss.length
  all : goAll nx n L ss = goAll nx n (L.drop j) sj
  rn : Rd oneU8 1 W v7 nx
  ro : Rd oneI64 1 W v8 (L.map natI)
  n7 : v7.ownBlock ≠ some S
  n8 : v8.ownBlock ≠ some S
section
variable {W7 W W' : World} {S : Nat} {nx : List Int} {n : Int} {L : List Nat} {ss sj : List GSpot} {v7 v8 : Value} {j : Nat}
theorem Inr.below (h : Inr W7 W S nx n L ss v7 v8 j sj) (hb : Below W.heap.size W W') : Inr W7 W' S nx n L ss v7 v8 j sj :=
  ⟨grown_trans h.grown (grown_below hb _), h.pl.below hb, h.len, h.all, h.rn.below hb, h.ro.below hb, h.n7, h.n8⟩
theorem Inr.step (h : Inr W7 W S nx n L ss v7 v8 j sj) {t : Nat} (hj : j < L.length) (ht : L[j] = t) (hg : goesOk sj t nx = true) {ss' : List GSpot} (he : ss' = goesTo sj t nx n) (hp : Places W' S ss' ∧ W.grownBy W' (some S)) : Inr W7 W' S nx n L ss v7 v8 (j + 1) ss' := by
  subst he ht
  refine ⟨grown_trans h.grown hp.2, hp.1, ?_, ?_, h.rn.grownS hp.2 h.n7, h.ro.grownS hp.2 h.n8, h.n7, h.n8⟩
  · rw [← h.len]; unfold goesTo; simp
  · rw [h.all, List.drop_eq_getElem_cons hj, goAll, if_pos hg]
theorem Inr.err (h : Inr W7 W S nx n L ss v7 v8 j sj) {t : Nat} (hj : j < L.length) (ht : L[j] = t) (hg : goesOk sj t nx = false) : (goAll nx n L ss).2 = 140 := by
  subst ht
  rw [h.all, List.drop_eq_getElem_cons hj, goAll, if_neg (by rw [hg]; decide)]
theorem Inr.fin (h : Inr W7 W S nx n L ss v7 v8 j sj) (hj : j = L.length) : goAll nx n L ss = (sj, 0) := by
  rw [h.all, hj, List.drop_length, goAll]
end
theorem spot_set_steps {ss : List GSpot} {k : Nat} (st : List Int) {n : Int} (h : n ≤ (spotAt ss k).steps) : ss.set k ⟨true, st, (spotAt ss k).steps⟩ = goesTo ss k st n := by
  unfold goesTo
  rw [show max (spotAt ss k).steps n = (spotAt ss k).steps by omega]
theorem spot_set_more {ss : List GSpot} {k : Nat} (st : List Int) {n : Int} (h : (spotAt ss k).steps < n) : ss.set k ⟨true, st, n⟩ = goesTo ss k st n := by
  unfold goesTo
  rw [show max (spotAt ss k).steps n = n by omega]
theorem Places.put2 {w : World} {S : Nat} {ss : List GSpot} (h : Places w S ss) (k : Nat) (hk : k < ss.length) (st : List Int) (v : Value) (hv : Rd oneU8 1 w v st) (hne : v.ownBlock ≠ some S) :
    Places ((w.setCell ⟨S, k * 3, none⟩ (.bool true)).setCell ⟨S, k * 3 + 1, none⟩ v) S (ss.set k ⟨true, st, (spotAt ss k).steps⟩) ∧ w.grownBy ((w.setCell ⟨S, k * 3, none⟩ (.bool true)).setCell ⟨S, k * 3 + 1, none⟩ v) (some S) := by
  obtain ⟨xs, rfl, h2, h3⟩ := h
  have hk' : k < xs.length := by simpa using hk
  have e : spotAt (xs.map (·.1)) k = xs[k].1 := by
    unfold spotAt
    rw [List.getD_eq_getElem?_getD, List.getElem?_map, List.getElem?_eq_getElem hk']
    rfl
  have c2 := flatMap_at encSp_len xs k hk' 2 _ rfl
  have g : w.grownBy ((w.setCell ⟨S, k * 3, none⟩ (.bool true)).setCell ⟨S, k * 3 + 1, none⟩ v) (some S) :=
    grown_trans (grown_cell w S _ _) (grown_cell _ S _ _)
  refine ⟨⟨xs.set k (⟨true, st, xs[k].1.steps⟩, v), ?_, ?_, ?_⟩, g⟩
  · rw [List.map_set, e]
  · have h4 := heap_setCell_same _ S (k * 3 + 1) _ _ v (heap_setCell_same w S (k * 3) _ _ (.bool true) h2)
    rw [h4, ← flat_set3 (⟨true, st, xs[k].1.steps⟩, v) xs k hk']
    congr 1
    congr 1
    apply Array.ext_getElem?
    intro i
    have hc : (xs.flatMap encSp)[k * 3 + 2]? = some (.int .i64 xs[k].1.steps) := c2
    by_cases ei : i = k * 3 + 2
    · subst ei
      simp [List.getElem?_set, hc]
      have := (List.getElem?_eq_some_iff.1 hc).1
      simpa [List.length_flatMap] using this
    · simp [List.getElem?_set, Ne.symm ei]
  · intro x hx
    rcases List.mem_or_eq_of_mem_set hx with hx | rfl
    · exact ⟨(h3 x hx).1.grownS g (h3 x hx).2, (h3 x hx).2⟩
    · exact ⟨hv.grownS g hne, hne⟩
theorem Places.put1 {w : World} {S : Nat} {ss : List GSpot} (h : Places w S ss) (k : Nat) (hk : k < ss.length) (n : Int) :
    Places (w.setCell ⟨S, k * 3 + 2, none⟩ (.int .i64 n)) S (ss.set k ⟨(spotAt ss k).reached, (spotAt ss k).stack, n⟩) ∧ w.grownBy (w.setCell ⟨S, k * 3 + 2, none⟩ (.int .i64 n)) (some S) := by
  obtain ⟨xs, rfl, h2, h3⟩ := h
  have hk' : k < xs.length := by simpa using hk
  have e : spotAt (xs.map (·.1)) k = xs[k].1 := by
    unfold spotAt
    rw [List.getD_eq_getElem?_getD, List.getElem?_map, List.getElem?_eq_getElem hk']
    rfl
  have g : w.grownBy (w.setCell ⟨S, k * 3 + 2, none⟩ (.int .i64 n)) (some S) := grown_cell w S _ _
  have hx := h3 _ (List.getElem_mem hk')
  refine ⟨⟨xs.set k (⟨xs[k].1.reached, xs[k].1.stack, n⟩, xs[k].2), ?_, ?_, ?_⟩, g⟩
  · rw [List.map_set, e]
  · have h4 := heap_setCell_same w S (k * 3 + 2) _ _ (.int .i64 n) h2
    have c0 : (xs.flatMap encSp)[k * 3]? = some (.bool xs[k].1.reached) := flatMap_at encSp_len xs k hk' 0 _ rfl
    have c1 : (xs.flatMap encSp)[k * 3 + 1]? = some xs[k].2 := flatMap_at encSp_len xs k hk' 1 _ rfl
    have e2 : ((xs.flatMap encSp).set (k * 3) (.bool xs[k].1.reached)).set (k * 3 + 1) xs[k].2 = xs.flatMap encSp := by
      apply List.ext_getElem?
      intro i
      by_cases e1 : i = k * 3 + 1
      · subst e1
        have := (List.getElem?_eq_some_iff.1 c1).1
        rw [List.getElem?_set_self (by simpa using this), c1]
      · rw [List.getElem?_set_ne (Ne.symm e1)]
        by_cases e0 : i = k * 3
        · subst e0
          have := (List.getElem?_eq_some_iff.1 c0).1
          rw [List.getElem?_set_self this, c0]
        · rw [List.getElem?_set_ne (Ne.symm e0)]
    rw [h4, ← flat_set3 (⟨xs[k].1.reached, xs[k].1.stack, n⟩, xs[k].2) xs k hk', e2]
    simp
  · intro x hx2
    rcases List.mem_or_eq_of_mem_set hx2 with hx2 | rfl
    · exact ⟨(h3 x hx2).1.grownS g (h3 x hx2).2, (h3 x hx2).2⟩
    · exact ⟨hx.1.grownS g hx.2, hx.2⟩
theorem spot_set {ss : List GSpot} {k : Nat} (h : k < ss.length) (x : GSpot) : spotAt (ss.set k x) k = x := by
  unfold spotAt
  rw [List.getD_eq_getElem?_getD, List.getElem?_set_self h]
  rfl
theorem drewN_bel {B : Nat} {w w' : World} (h : Below B w w') (n : Nat) : Below B w (w'.drewN n) := by
  induction n with
  | zero => exact h
  | succ n ih => exact ih.drew
theorem outJ_len (J : Bool) (a : Int) : (outJ J a).length ≤ 1 := by unfold outJ; split <;> simp
theorem Places.more {w : World} {S : Nat} {ss : List GSpot} {k : Nat} {st : List Int} {x : GSpot} (hx : x.reached = true ∧ x.stack = st) (h : Places w S (ss.set k x)) (hk : k < ss.length) (n : Int) (q : Nat) :
    Places ((w.drewN q).setCell ⟨S, k * 3 + 2, none⟩ (.int .i64 n)) S (ss.set k ⟨true, st, n⟩) ∧ w.grownBy ((w.drewN q).setCell ⟨S, k * 3 + 2, none⟩ (.int .i64 n)) (some S) := by
  have h2 := (h.below (drewN_bel (Below.refl _ _) q)).put1 k (by simpa using hk) n
  rw [spot_set hk, hx.1, hx.2, List.set_set] at h2
  exact ⟨h2.1, grown_trans (grown_below (drewN_bel (Below.refl _ _) q) _) h2.2⟩
theorem int_info : ∃ i, Try.prog.info? 3 = some i ∧ i.zero = some (.int .i64 0) ∧ i.size = 1 ∧ i.bytes = 8 := by
  have h : (Try.prog.info? 3).map (fun i => (i.zero, i.size, i.bytes)) = some (some (.int .i64 0), 1, 8) := by kernel_rfl
  obtain ⟨i, h1, h2⟩ := Option.map_eq_some_iff.1 h
  simp only [Prod.mk.injEq] at h2
  exact ⟨i, h1, h2.1, h2.2.1, h2.2.2⟩
end Go.Proofs.Ythiapebodpkamaa

