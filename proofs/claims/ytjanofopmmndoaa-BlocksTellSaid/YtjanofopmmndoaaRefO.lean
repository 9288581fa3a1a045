/- Contract of blockhouseref15.Outs. -/
import Derived.Test.YtjanofopmmndoaaRefR
import Derived.Test.YtjanofopmmndoaaOuts
namespace Go.Proofs.Ytjanofopmmndoaa
open Go.RowKit
theorem rtruth_any (b : Bool) (w : World) : Calls Try.prog 27 #[.bool b] w fun e w' => e = .returned (.int .i64 (truthI b)) ∧ w' = w := by
  cases b
  all_goals
    go_enter Try.func27, Try.ntmps27
    go_wp2
    go_ret
    exact ⟨rfl, rfl⟩
set_option maxRecDepth 100000 in
theorem refo_none (b : GBlock) (hR : rightBlk b = false) (w : World) : Calls Try.prog 17 #[vBlk b] w (OutsPost b w) := by
  have hrr : ∀ w, Calls Try.prog 14 #[vBlk b] w fun e w' => e = .returned (.bool false) ∧ Below w.heap.size w w' := fun w => by have := refr_any b w; rwa [hR] at this
  have e : outsB b = [] := by simp [outsB, hR]
  unfold OutsPost
  rw [e]
  clear e hR
  obtain ⟨kind, w0, w1, ran, going, frm, et, cv, q, p⟩ := b
  unfold vBlk at hrr ⊢
  go_enter Try.func17, Try.ntmps17
  go_wp2_with fail
  refine (hrr _).mono ?_
  rintro e W1 ⟨rfl, hb1⟩
  obtain ⟨h1, -, -⟩ := one_block w (Obj.cells #[.int .u8 kind, .bool w0, .bool w1, .bool ran, .bool going, .int .i64 frm, .int .i64 et, .int .i64 cv, .bool q, .bool p] 25)
  have B1 := Fact.mk (h1.trans (hb1.mono h1.size))
  clear h1 hb1 hrr
  go_wp2_with fail
  go_ret
  exact ⟨_, rfl, rd_nil _ _ _, B1.out, fresh_nil _⟩
set_option maxRecDepth 100000 in
set_option maxHeartbeats 1000000 in
theorem refo_1 (b : GBlock) (hk : b.kind = 1) (hR : rightBlk b = true) (w : World) : Calls Try.prog 17 #[vBlk b] w (OutsPost b w) := by
  have hrr : ∀ w, Calls Try.prog 14 #[vBlk b] w fun e w' => e = .returned (.bool true) ∧ Below w.heap.size w w' := fun w => by have := refr_any b w; rwa [hR] at this
  obtain ⟨kind, w0, w1, ran, going, frm, et, cv, q, p⟩ := b
  obtain rfl : kind = 1 := hk
  have HR := Fact.mk hR
  clear hR
  unfold vBlk at hrr ⊢
  go_enter Try.func17, Try.ntmps17
  go_wp2_with fail
  refine (hrr _).mono ?_
  rintro e W1 ⟨rfl, hb1⟩
  obtain ⟨h1, h2, h3⟩ := one_block w (Obj.cells #[.int .u8 1, .bool w0, .bool w1, .bool ran, .bool going, .int .i64 frm, .int .i64 et, .int .i64 cv, .bool q, .bool p] 25)
  have hh := hb1.block w.heap.size (by rw [h3]; omega)
  rw [h2] at hh
  obtain ⟨d0, d1, d2, d3, d4, d5, d6, d7, d8, d9, -, -, -, -, -, -, -, -, -, -⟩ := row10 hh
  have B1 := Fact.mk (h1.trans (hb1.mono h1.size))
  clear h1 h2 h3 hh hb1 hrr
  by_cases hm : et ≤ 4294967295
  · have hmin : min et 4294967295 = et := by omega
    have HM := Fact.mk hmin
    clear hmin
    go_wp2_with (go_at_call 27; refine (rtruth_any _ _).mono ?_; rintro e w' ⟨rfl, rfl⟩)
    go_ret
    first | exact outs_end (b := ⟨1, w0, w1, ran, going, frm, et, cv, q, p⟩) B1.out [truthI q, et] (by simp [outsB, outsK, HR.out, HM.out]) (Nat.le_of_ble_eq_true rfl) | exact outs_endN (b := ⟨1, w0, w1, ran, going, frm, et, cv, q, p⟩) (n := 1) B1.out [truthI q, et] (by simp [outsB, outsK, HR.out, HM.out]) (Nat.le_of_ble_eq_true rfl)
  · have hmin : min et 4294967295 = 4294967295 := by omega
    have HM := Fact.mk hmin
    clear hmin
    go_wp2_with (go_at_call 27; refine (rtruth_any _ _).mono ?_; rintro e w' ⟨rfl, rfl⟩)
    go_ret
    first | exact outs_end (b := ⟨1, w0, w1, ran, going, frm, et, cv, q, p⟩) B1.out [truthI q, 4294967295] (by simp [outsB, outsK, HR.out, HM.out]) (Nat.le_of_ble_eq_true rfl) | exact outs_endN (b := ⟨1, w0, w1, ran, going, frm, et, cv, q, p⟩) (n := 1) B1.out [truthI q, 4294967295] (by simp [outsB, outsK, HR.out, HM.out]) (Nat.le_of_ble_eq_true rfl)
set_option maxRecDepth 100000 in
set_option maxHeartbeats 1000000 in
theorem refo_2 (b : GBlock) (hk : b.kind = 2) (hR : rightBlk b = true) (w : World) : Calls Try.prog 17 #[vBlk b] w (OutsPost b w) := by
  have hrr : ∀ w, Calls Try.prog 14 #[vBlk b] w fun e w' => e = .returned (.bool true) ∧ Below w.heap.size w w' := fun w => by have := refr_any b w; rwa [hR] at this
  obtain ⟨kind, w0, w1, ran, going, frm, et, cv, q, p⟩ := b
  obtain rfl : kind = 2 := hk
  have HR := Fact.mk hR
  clear hR
  unfold vBlk at hrr ⊢
  go_enter Try.func17, Try.ntmps17
  go_wp2_with fail
  refine (hrr _).mono ?_
  rintro e W1 ⟨rfl, hb1⟩
  obtain ⟨h1, h2, h3⟩ := one_block w (Obj.cells #[.int .u8 2, .bool w0, .bool w1, .bool ran, .bool going, .int .i64 frm, .int .i64 et, .int .i64 cv, .bool q, .bool p] 25)
  have hh := hb1.block w.heap.size (by rw [h3]; omega)
  rw [h2] at hh
  obtain ⟨d0, d1, d2, d3, d4, d5, d6, d7, d8, d9, -, -, -, -, -, -, -, -, -, -⟩ := row10 hh
  have B1 := Fact.mk (h1.trans (hb1.mono h1.size))
  clear h1 h2 h3 hh hb1 hrr
  by_cases hm : et ≤ 4294967295
  · have hmin : min et 4294967295 = et := by omega
    have HM := Fact.mk hmin
    clear hmin
    go_wp2_with (go_at_call 27; refine (rtruth_any _ _).mono ?_; rintro e w' ⟨rfl, rfl⟩)
    go_ret
    first | exact outs_end (b := ⟨2, w0, w1, ran, going, frm, et, cv, q, p⟩) B1.out [truthI q, et] (by simp [outsB, outsK, HR.out, HM.out]) (Nat.le_of_ble_eq_true rfl) | exact outs_endN (b := ⟨2, w0, w1, ran, going, frm, et, cv, q, p⟩) (n := 1) B1.out [truthI q, et] (by simp [outsB, outsK, HR.out, HM.out]) (Nat.le_of_ble_eq_true rfl)
  · have hmin : min et 4294967295 = 4294967295 := by omega
    have HM := Fact.mk hmin
    clear hmin
    go_wp2_with (go_at_call 27; refine (rtruth_any _ _).mono ?_; rintro e w' ⟨rfl, rfl⟩)
    go_ret
    first | exact outs_end (b := ⟨2, w0, w1, ran, going, frm, et, cv, q, p⟩) B1.out [truthI q, 4294967295] (by simp [outsB, outsK, HR.out, HM.out]) (Nat.le_of_ble_eq_true rfl) | exact outs_endN (b := ⟨2, w0, w1, ran, going, frm, et, cv, q, p⟩) (n := 1) B1.out [truthI q, 4294967295] (by simp [outsB, outsK, HR.out, HM.out]) (Nat.le_of_ble_eq_true rfl)
set_option maxRecDepth 100000 in
set_option maxHeartbeats 1000000 in
theorem refo_3 (b : GBlock) (hk : b.kind = 3) (hR : rightBlk b = true) (w : World) : Calls Try.prog 17 #[vBlk b] w (OutsPost b w) := by
  have hrr : ∀ w, Calls Try.prog 14 #[vBlk b] w fun e w' => e = .returned (.bool true) ∧ Below w.heap.size w w' := fun w => by have := refr_any b w; rwa [hR] at this
  obtain ⟨kind, w0, w1, ran, going, frm, et, cv, q, p⟩ := b
  obtain rfl : kind = 3 := hk
  have HR := Fact.mk hR
  clear hR
  unfold vBlk at hrr ⊢
  go_enter Try.func17, Try.ntmps17
  go_wp2_with fail
  refine (hrr _).mono ?_
  rintro e W1 ⟨rfl, hb1⟩
  obtain ⟨h1, h2, h3⟩ := one_block w (Obj.cells #[.int .u8 3, .bool w0, .bool w1, .bool ran, .bool going, .int .i64 frm, .int .i64 et, .int .i64 cv, .bool q, .bool p] 25)
  have hh := hb1.block w.heap.size (by rw [h3]; omega)
  rw [h2] at hh
  obtain ⟨d0, d1, d2, d3, d4, d5, d6, d7, d8, d9, -, -, -, -, -, -, -, -, -, -⟩ := row10 hh
  have B1 := Fact.mk (h1.trans (hb1.mono h1.size))
  clear h1 h2 h3 hh hb1 hrr
  by_cases hm : et ≤ 4294967295
  · have hmin : min et 4294967295 = et := by omega
    have HM := Fact.mk hmin
    clear hmin
    go_wp2_with (go_at_call 27; refine (rtruth_any _ _).mono ?_; rintro e w' ⟨rfl, rfl⟩)
    go_ret
    first | exact outs_end (b := ⟨3, w0, w1, ran, going, frm, et, cv, q, p⟩) B1.out [truthI q, et] (by simp [outsB, outsK, HR.out, HM.out]) (Nat.le_of_ble_eq_true rfl) | exact outs_endN (b := ⟨3, w0, w1, ran, going, frm, et, cv, q, p⟩) (n := 1) B1.out [truthI q, et] (by simp [outsB, outsK, HR.out, HM.out]) (Nat.le_of_ble_eq_true rfl)
  · have hmin : min et 4294967295 = 4294967295 := by omega
    have HM := Fact.mk hmin
    clear hmin
    go_wp2_with (go_at_call 27; refine (rtruth_any _ _).mono ?_; rintro e w' ⟨rfl, rfl⟩)
    go_ret
    first | exact outs_end (b := ⟨3, w0, w1, ran, going, frm, et, cv, q, p⟩) B1.out [truthI q, 4294967295] (by simp [outsB, outsK, HR.out, HM.out]) (Nat.le_of_ble_eq_true rfl) | exact outs_endN (b := ⟨3, w0, w1, ran, going, frm, et, cv, q, p⟩) (n := 1) B1.out [truthI q, 4294967295] (by simp [outsB, outsK, HR.out, HM.out]) (Nat.le_of_ble_eq_true rfl)
set_option maxRecDepth 100000 in
set_option maxHeartbeats 1000000 in
theorem refo_4 (b : GBlock) (hk : b.kind = 4) (hR : rightBlk b = true) (w : World) : Calls Try.prog 17 #[vBlk b] w (OutsPost b w) := by
  have hrr : ∀ w, Calls Try.prog 14 #[vBlk b] w fun e w' => e = .returned (.bool true) ∧ Below w.heap.size w w' := fun w => by have := refr_any b w; rwa [hR] at this
  obtain ⟨kind, w0, w1, ran, going, frm, et, cv, q, p⟩ := b
  obtain rfl : kind = 4 := hk
  have HR := Fact.mk hR
  clear hR
  unfold vBlk at hrr ⊢
  go_enter Try.func17, Try.ntmps17
  go_wp2_with fail
  refine (hrr _).mono ?_
  rintro e W1 ⟨rfl, hb1⟩
  obtain ⟨h1, h2, h3⟩ := one_block w (Obj.cells #[.int .u8 4, .bool w0, .bool w1, .bool ran, .bool going, .int .i64 frm, .int .i64 et, .int .i64 cv, .bool q, .bool p] 25)
  have hh := hb1.block w.heap.size (by rw [h3]; omega)
  rw [h2] at hh
  obtain ⟨d0, d1, d2, d3, d4, d5, d6, d7, d8, d9, -, -, -, -, -, -, -, -, -, -⟩ := row10 hh
  have B1 := Fact.mk (h1.trans (hb1.mono h1.size))
  clear h1 h2 h3 hh hb1 hrr
  go_wp2_with (go_at_call 27; refine (rtruth_any _ _).mono ?_; rintro e w' ⟨rfl, rfl⟩)
  all_goals go_region_with (go_at_call 27; refine (rtruth_any _ _).mono ?_; rintro e w' ⟨rfl, rfl⟩)
  all_goals go_wp2_with (go_at_call 27; refine (rtruth_any _ _).mono ?_; rintro e w' ⟨rfl, rfl⟩)
  all_goals go_ret
  all_goals (first | exact outs_end (b := ⟨4, w0, w1, ran, going, frm, et, cv, q, p⟩) B1.out [truthI q, cv] (by simp [outsB, outsK, HR.out]) (Nat.le_of_ble_eq_true rfl) | exact outs_endN (b := ⟨4, w0, w1, ran, going, frm, et, cv, q, p⟩) (n := 1) B1.out [truthI q, cv] (by simp [outsB, outsK, HR.out]) (Nat.le_of_ble_eq_true rfl))
set_option maxRecDepth 100000 in
set_option maxHeartbeats 1000000 in
theorem refo_5 (b : GBlock) (hk : b.kind = 5) (hR : rightBlk b = true) (w : World) : Calls Try.prog 17 #[vBlk b] w (OutsPost b w) := by
  have hrr : ∀ w, Calls Try.prog 14 #[vBlk b] w fun e w' => e = .returned (.bool true) ∧ Below w.heap.size w w' := fun w => by have := refr_any b w; rwa [hR] at this
  obtain ⟨kind, w0, w1, ran, going, frm, et, cv, q, p⟩ := b
  obtain rfl : kind = 5 := hk
  have HR := Fact.mk hR
  clear hR
  unfold vBlk at hrr ⊢
  go_enter Try.func17, Try.ntmps17
  go_wp2_with fail
  refine (hrr _).mono ?_
  rintro e W1 ⟨rfl, hb1⟩
  obtain ⟨h1, h2, h3⟩ := one_block w (Obj.cells #[.int .u8 5, .bool w0, .bool w1, .bool ran, .bool going, .int .i64 frm, .int .i64 et, .int .i64 cv, .bool q, .bool p] 25)
  have hh := hb1.block w.heap.size (by rw [h3]; omega)
  rw [h2] at hh
  obtain ⟨d0, d1, d2, d3, d4, d5, d6, d7, d8, d9, -, -, -, -, -, -, -, -, -, -⟩ := row10 hh
  have B1 := Fact.mk (h1.trans (hb1.mono h1.size))
  clear h1 h2 h3 hh hb1 hrr
  go_wp2_with (go_at_call 27; refine (rtruth_any _ _).mono ?_; rintro e w' ⟨rfl, rfl⟩)
  all_goals go_region_with (go_at_call 27; refine (rtruth_any _ _).mono ?_; rintro e w' ⟨rfl, rfl⟩)
  all_goals go_wp2_with (go_at_call 27; refine (rtruth_any _ _).mono ?_; rintro e w' ⟨rfl, rfl⟩)
  all_goals go_ret
  all_goals (first | exact outs_end (b := ⟨5, w0, w1, ran, going, frm, et, cv, q, p⟩) B1.out [truthI q, cv] (by simp [outsB, outsK, HR.out]) (Nat.le_of_ble_eq_true rfl) | exact outs_endN (b := ⟨5, w0, w1, ran, going, frm, et, cv, q, p⟩) (n := 1) B1.out [truthI q, cv] (by simp [outsB, outsK, HR.out]) (Nat.le_of_ble_eq_true rfl))
set_option maxRecDepth 100000 in
set_option maxHeartbeats 1000000 in
theorem refo_6 (b : GBlock) (hk : b.kind = 6) (hR : rightBlk b = true) (w : World) : Calls Try.prog 17 #[vBlk b] w (OutsPost b w) := by
  have hrr : ∀ w, Calls Try.prog 14 #[vBlk b] w fun e w' => e = .returned (.bool true) ∧ Below w.heap.size w w' := fun w => by have := refr_any b w; rwa [hR] at this
  obtain ⟨kind, w0, w1, ran, going, frm, et, cv, q, p⟩ := b
  obtain rfl : kind = 6 := hk
  have HR := Fact.mk hR
  clear hR
  unfold vBlk at hrr ⊢
  go_enter Try.func17, Try.ntmps17
  go_wp2_with fail
  refine (hrr _).mono ?_
  rintro e W1 ⟨rfl, hb1⟩
  obtain ⟨h1, h2, h3⟩ := one_block w (Obj.cells #[.int .u8 6, .bool w0, .bool w1, .bool ran, .bool going, .int .i64 frm, .int .i64 et, .int .i64 cv, .bool q, .bool p] 25)
  have hh := hb1.block w.heap.size (by rw [h3]; omega)
  rw [h2] at hh
  obtain ⟨d0, d1, d2, d3, d4, d5, d6, d7, d8, d9, -, -, -, -, -, -, -, -, -, -⟩ := row10 hh
  have B1 := Fact.mk (h1.trans (hb1.mono h1.size))
  clear h1 h2 h3 hh hb1 hrr
  go_wp2_with (go_at_call 27; refine (rtruth_any _ _).mono ?_; rintro e w' ⟨rfl, rfl⟩)
  all_goals go_region_with (go_at_call 27; refine (rtruth_any _ _).mono ?_; rintro e w' ⟨rfl, rfl⟩)
  all_goals go_wp2_with (go_at_call 27; refine (rtruth_any _ _).mono ?_; rintro e w' ⟨rfl, rfl⟩)
  all_goals go_ret
  all_goals (first | exact outs_end (b := ⟨6, w0, w1, ran, going, frm, et, cv, q, p⟩) B1.out [truthI q, truthI p, cv] (by simp [outsB, outsK, HR.out]) (Nat.le_of_ble_eq_true rfl) | exact outs_endN (b := ⟨6, w0, w1, ran, going, frm, et, cv, q, p⟩) (n := 1) B1.out [truthI q, truthI p, cv] (by simp [outsB, outsK, HR.out]) (Nat.le_of_ble_eq_true rfl))
set_option maxRecDepth 100000 in
set_option maxHeartbeats 1000000 in
theorem refo_7 (b : GBlock) (hk : b.kind = 7) (hR : rightBlk b = true) (w : World) : Calls Try.prog 17 #[vBlk b] w (OutsPost b w) := by
  have hrr : ∀ w, Calls Try.prog 14 #[vBlk b] w fun e w' => e = .returned (.bool true) ∧ Below w.heap.size w w' := fun w => by have := refr_any b w; rwa [hR] at this
  obtain ⟨kind, w0, w1, ran, going, frm, et, cv, q, p⟩ := b
  obtain rfl : kind = 7 := hk
  have HR := Fact.mk hR
  clear hR
  unfold vBlk at hrr ⊢
  go_enter Try.func17, Try.ntmps17
  go_wp2_with fail
  refine (hrr _).mono ?_
  rintro e W1 ⟨rfl, hb1⟩
  obtain ⟨h1, h2, h3⟩ := one_block w (Obj.cells #[.int .u8 7, .bool w0, .bool w1, .bool ran, .bool going, .int .i64 frm, .int .i64 et, .int .i64 cv, .bool q, .bool p] 25)
  have hh := hb1.block w.heap.size (by rw [h3]; omega)
  rw [h2] at hh
  obtain ⟨d0, d1, d2, d3, d4, d5, d6, d7, d8, d9, -, -, -, -, -, -, -, -, -, -⟩ := row10 hh
  have B1 := Fact.mk (h1.trans (hb1.mono h1.size))
  clear h1 h2 h3 hh hb1 hrr
  go_wp2_with (go_at_call 27; refine (rtruth_any _ _).mono ?_; rintro e w' ⟨rfl, rfl⟩)
  all_goals go_ret
  all_goals (first | exact outs_end (b := ⟨7, w0, w1, ran, going, frm, et, cv, q, p⟩) B1.out [truthI q] (by simp [outsB, outsK, HR.out]) (Nat.le_of_ble_eq_true rfl) | exact outs_endN (b := ⟨7, w0, w1, ran, going, frm, et, cv, q, p⟩) (n := 1) B1.out [truthI q] (by simp [outsB, outsK, HR.out]) (Nat.le_of_ble_eq_true rfl))
set_option maxRecDepth 100000 in
set_option maxHeartbeats 1000000 in
theorem refo_8 (b : GBlock) (hk : b.kind = 8) (hR : rightBlk b = true) (w : World) : Calls Try.prog 17 #[vBlk b] w (OutsPost b w) := by
  have hrr : ∀ w, Calls Try.prog 14 #[vBlk b] w fun e w' => e = .returned (.bool true) ∧ Below w.heap.size w w' := fun w => by have := refr_any b w; rwa [hR] at this
  obtain ⟨kind, w0, w1, ran, going, frm, et, cv, q, p⟩ := b
  obtain rfl : kind = 8 := hk
  have HR := Fact.mk hR
  clear hR
  unfold vBlk at hrr ⊢
  go_enter Try.func17, Try.ntmps17
  go_wp2_with fail
  refine (hrr _).mono ?_
  rintro e W1 ⟨rfl, hb1⟩
  obtain ⟨h1, h2, h3⟩ := one_block w (Obj.cells #[.int .u8 8, .bool w0, .bool w1, .bool ran, .bool going, .int .i64 frm, .int .i64 et, .int .i64 cv, .bool q, .bool p] 25)
  have hh := hb1.block w.heap.size (by rw [h3]; omega)
  rw [h2] at hh
  obtain ⟨d0, d1, d2, d3, d4, d5, d6, d7, d8, d9, -, -, -, -, -, -, -, -, -, -⟩ := row10 hh
  have B1 := Fact.mk (h1.trans (hb1.mono h1.size))
  clear h1 h2 h3 hh hb1 hrr
  go_wp2_with (go_at_call 27; refine (rtruth_any _ _).mono ?_; rintro e w' ⟨rfl, rfl⟩)
  all_goals go_ret
  all_goals (first | exact outs_end (b := ⟨8, w0, w1, ran, going, frm, et, cv, q, p⟩) B1.out [truthI q] (by simp [outsB, outsK, HR.out]) (Nat.le_of_ble_eq_true rfl) | exact outs_endN (b := ⟨8, w0, w1, ran, going, frm, et, cv, q, p⟩) (n := 1) B1.out [truthI q] (by simp [outsB, outsK, HR.out]) (Nat.le_of_ble_eq_true rfl))
set_option maxRecDepth 100000 in
set_option maxHeartbeats 1000000 in
theorem refo_9 (b : GBlock) (hk : b.kind = 9) (hR : rightBlk b = true) (w : World) : Calls Try.prog 17 #[vBlk b] w (OutsPost b w) := by
  have hrr : ∀ w, Calls Try.prog 14 #[vBlk b] w fun e w' => e = .returned (.bool true) ∧ Below w.heap.size w w' := fun w => by have := refr_any b w; rwa [hR] at this
  obtain ⟨kind, w0, w1, ran, going, frm, et, cv, q, p⟩ := b
  obtain rfl : kind = 9 := hk
  have HR := Fact.mk hR
  clear hR
  unfold vBlk at hrr ⊢
  go_enter Try.func17, Try.ntmps17
  go_wp2_with fail
  refine (hrr _).mono ?_
  rintro e W1 ⟨rfl, hb1⟩
  obtain ⟨h1, h2, h3⟩ := one_block w (Obj.cells #[.int .u8 9, .bool w0, .bool w1, .bool ran, .bool going, .int .i64 frm, .int .i64 et, .int .i64 cv, .bool q, .bool p] 25)
  have hh := hb1.block w.heap.size (by rw [h3]; omega)
  rw [h2] at hh
  obtain ⟨d0, d1, d2, d3, d4, d5, d6, d7, d8, d9, -, -, -, -, -, -, -, -, -, -⟩ := row10 hh
  have B1 := Fact.mk (h1.trans (hb1.mono h1.size))
  clear h1 h2 h3 hh hb1 hrr
  go_wp2_with (go_at_call 27; refine (rtruth_any _ _).mono ?_; rintro e w' ⟨rfl, rfl⟩)
  all_goals go_ret
  all_goals (first | exact outs_end (b := ⟨9, w0, w1, ran, going, frm, et, cv, q, p⟩) B1.out [truthI q] (by simp [outsB, outsK, HR.out]) (Nat.le_of_ble_eq_true rfl) | exact outs_endN (b := ⟨9, w0, w1, ran, going, frm, et, cv, q, p⟩) (n := 1) B1.out [truthI q] (by simp [outsB, outsK, HR.out]) (Nat.le_of_ble_eq_true rfl))
set_option maxRecDepth 100000 in
set_option maxHeartbeats 1000000 in
theorem refo_10 (b : GBlock) (hk : b.kind = 10) (hR : rightBlk b = true) (w : World) : Calls Try.prog 17 #[vBlk b] w (OutsPost b w) := by
  have hrr : ∀ w, Calls Try.prog 14 #[vBlk b] w fun e w' => e = .returned (.bool true) ∧ Below w.heap.size w w' := fun w => by have := refr_any b w; rwa [hR] at this
  obtain ⟨kind, w0, w1, ran, going, frm, et, cv, q, p⟩ := b
  obtain rfl : kind = 10 := hk
  have HR := Fact.mk hR
  clear hR
  unfold vBlk at hrr ⊢
  go_enter Try.func17, Try.ntmps17
  go_wp2_with fail
  refine (hrr _).mono ?_
  rintro e W1 ⟨rfl, hb1⟩
  obtain ⟨h1, h2, h3⟩ := one_block w (Obj.cells #[.int .u8 10, .bool w0, .bool w1, .bool ran, .bool going, .int .i64 frm, .int .i64 et, .int .i64 cv, .bool q, .bool p] 25)
  have hh := hb1.block w.heap.size (by rw [h3]; omega)
  rw [h2] at hh
  obtain ⟨d0, d1, d2, d3, d4, d5, d6, d7, d8, d9, -, -, -, -, -, -, -, -, -, -⟩ := row10 hh
  have B1 := Fact.mk (h1.trans (hb1.mono h1.size))
  clear h1 h2 h3 hh hb1 hrr
  go_wp2_with (go_at_call 27; refine (rtruth_any _ _).mono ?_; rintro e w' ⟨rfl, rfl⟩)
  all_goals go_ret
  all_goals (first | exact outs_end (b := ⟨10, w0, w1, ran, going, frm, et, cv, q, p⟩) B1.out [truthI q] (by simp [outsB, outsK, HR.out]) (Nat.le_of_ble_eq_true rfl) | exact outs_endN (b := ⟨10, w0, w1, ran, going, frm, et, cv, q, p⟩) (n := 1) B1.out [truthI q] (by simp [outsB, outsK, HR.out]) (Nat.le_of_ble_eq_true rfl))
set_option maxRecDepth 100000 in
set_option maxHeartbeats 1000000 in
theorem refo_11 (b : GBlock) (hk : b.kind = 11) (hR : rightBlk b = true) (w : World) : Calls Try.prog 17 #[vBlk b] w (OutsPost b w) := by
  have hrr : ∀ w, Calls Try.prog 14 #[vBlk b] w fun e w' => e = .returned (.bool true) ∧ Below w.heap.size w w' := fun w => by have := refr_any b w; rwa [hR] at this
  obtain ⟨kind, w0, w1, ran, going, frm, et, cv, q, p⟩ := b
  obtain rfl : kind = 11 := hk
  have HR := Fact.mk hR
  clear hR
  unfold vBlk at hrr ⊢
  go_enter Try.func17, Try.ntmps17
  go_wp2_with fail
  refine (hrr _).mono ?_
  rintro e W1 ⟨rfl, hb1⟩
  obtain ⟨h1, h2, h3⟩ := one_block w (Obj.cells #[.int .u8 11, .bool w0, .bool w1, .bool ran, .bool going, .int .i64 frm, .int .i64 et, .int .i64 cv, .bool q, .bool p] 25)
  have hh := hb1.block w.heap.size (by rw [h3]; omega)
  rw [h2] at hh
  obtain ⟨d0, d1, d2, d3, d4, d5, d6, d7, d8, d9, -, -, -, -, -, -, -, -, -, -⟩ := row10 hh
  have B1 := Fact.mk (h1.trans (hb1.mono h1.size))
  clear h1 h2 h3 hh hb1 hrr
  go_wp2_with (go_at_call 27; refine (rtruth_any _ _).mono ?_; rintro e w' ⟨rfl, rfl⟩)
  all_goals go_region_with (go_at_call 27; refine (rtruth_any _ _).mono ?_; rintro e w' ⟨rfl, rfl⟩)
  all_goals go_wp2_with (go_at_call 27; refine (rtruth_any _ _).mono ?_; rintro e w' ⟨rfl, rfl⟩)
  all_goals go_ret
  all_goals (first | exact outs_end (b := ⟨11, w0, w1, ran, going, frm, et, cv, q, p⟩) B1.out [cv, truthI q] (by simp [outsB, outsK, HR.out]) (Nat.le_of_ble_eq_true rfl) | exact outs_endN (b := ⟨11, w0, w1, ran, going, frm, et, cv, q, p⟩) (n := 1) B1.out [cv, truthI q] (by simp [outsB, outsK, HR.out]) (Nat.le_of_ble_eq_true rfl))
theorem refo_any (b : GBlock) (w : World) : Calls Try.prog 17 #[vBlk b] w (OutsPost b w) := by
  cases hR : rightBlk b with
  | false => exact refo_none b hR w
  | true =>
    rcases right_kinds hR with hk | hk | hk | hk | hk | hk | hk | hk | hk | hk | hk
    · exact refo_1 b hk hR w
    · exact refo_2 b hk hR w
    · exact refo_3 b hk hR w
    · exact refo_4 b hk hR w
    · exact refo_5 b hk hR w
    · exact refo_6 b hk hR w
    · exact refo_7 b hk hR w
    · exact refo_8 b hk hR w
    · exact refo_9 b hk hR w
    · exact refo_10 b hk hR w
    · exact refo_11 b hk hR w
end Go.Proofs.Ytjanofopmmndoaa

