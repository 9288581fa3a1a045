/- Contract of blocks.Outs. -/
import Derived.Test.YtjanofopmmndoaaRBlkM
import Derived.Test.YtjanofopmmndoaaBaseM
import Derived.Deep.RegionWith
namespace Go.Proofs.Ytjanofopmmndoaa
open Go.RowKit
def truthI (b : Bool) : Int := if b = true then 1 else 0
def outsK (b : GBlock) : List Int :=
  if b.kind = 1 ∨ b.kind = 2 ∨ b.kind = 3 then [truthI b.q, min b.et 4294967295] else if b.kind = 4 ∨ b.kind = 5 then [truthI b.q, b.cv] else if b.kind = 6 then [truthI b.q, truthI b.p, b.cv] else if b.kind = 11 then [b.cv, truthI b.q] else [truthI b.q]
def outsB (b : GBlock) : List Int := if rightBlk b = true then outsK b else []
/-- A value whose row is new. -/
def Fresh (w : World) (v : Value) : Prop := ∀ k, v.ownBlock = some k → w.heap.size ≤ k
theorem fresh_new {w W1 : World} {n c : Nat} (h : w.heap.size ≤ W1.heap.size) : Fresh w (.slice (some ⟨W1.heap.size, 0, none⟩) n c) := fun k hk => by
  simp only [Value.ownBlock, Option.some.injEq] at hk
  omega
theorem fresh_nil (w : World) : Fresh w (.slice none 0 0) := fun k hk => by cases hk
def OutsPost (b : GBlock) (w : World) (e : Ending) (w' : World) : Prop := ∃ v, e = .returned v ∧ Rd oneI64 1 w' v (outsB b) ∧ Below w.heap.size w w' ∧ Fresh w v
theorem outs_end {w W1 : World} {b : GBlock} {T : TypeId} (B1 : Below w.heap.size w W1) (xs : List Int) (hx : xs = outsB b) (hl : xs.length ≤ 9) : OutsPost b w (.returned (.slice (some ⟨W1.heap.size, 0, none⟩) xs.length xs.length)) (W1.alloc (.cells (xs.flatMap oneI64).toArray T)) := by
  subst hx
  exact ⟨_, rfl, rd_new oneI64 1 oneI64_len W1 _ T (by omega), B1.alloc B1.size _, fresh_new B1.size⟩
theorem outs_endN {w W1 : World} {b : GBlock} {T : TypeId} {n : Nat} (B1 : Below w.heap.size w W1) (xs : List Int) (hx : xs = outsB b) (hl : xs.length ≤ 9) : OutsPost b w (.returned (.slice (some ⟨W1.heap.size, 0, none⟩) xs.length xs.length)) ((W1.alloc (.cells (xs.flatMap oneI64).toArray T)).drewN n) := by
  obtain ⟨v, h1, h2, h3, h4⟩ := outs_end (T := T) B1 xs hx hl
  exact ⟨v, h1, h2.below ⟨rfl, rfl, rfl, Nat.le_refl _, fun _ _ => rfl⟩, h3.trans ⟨rfl, rfl, rfl, Nat.le_refl _, fun _ _ => rfl⟩, h4⟩
theorem right_kinds {b : GBlock} (h : rightBlk b = true) : b.kind = 1 ∨ b.kind = 2 ∨ b.kind = 3 ∨ b.kind = 4 ∨ b.kind = 5 ∨ b.kind = 6 ∨ b.kind = 7 ∨ b.kind = 8 ∨ b.kind = 9 ∨ b.kind = 10 ∨ b.kind = 11 := by
  by_cases hk : b.kind < 1 ∨ 11 < b.kind
  · rw [rightBlk, useB_odd hk, Bool.and_false] at h; cases h
  · omega
theorem truth_any (b : Bool) (w : World) : Calls Try.prog 26 #[.bool b] w fun e w' => e = .returned (.int .i64 (truthI b)) ∧ w' = w := by
  cases b
  all_goals
    go_enter Try.func26, Try.ntmps26
    go_wp2
    go_ret
    exact ⟨rfl, rfl⟩
set_option maxRecDepth 100000 in
theorem outs_none (b : GBlock) (hR : rightBlk b = false) (w : World) : Calls Try.prog 16 #[vBlk b] w (OutsPost b w) := by
  have hrr : ∀ w, Calls Try.prog 13 #[vBlk b] w fun e w' => e = .returned (.bool false) ∧ Below w.heap.size w w' := fun w => by have := rblk_any b w; rwa [hR] at this
  have e : outsB b = [] := by simp [outsB, hR]
  unfold OutsPost
  rw [e]
  clear e hR
  obtain ⟨kind, w0, w1, ran, going, frm, et, cv, q, p⟩ := b
  unfold vBlk at hrr ⊢
  go_enter Try.func16, Try.ntmps16
  go_wp2_with fail
  refine (hrr _).mono ?_
  rintro e W1 ⟨rfl, hb1⟩
  obtain ⟨h1, -, -⟩ := one_block w (Obj.cells #[.int .u8 kind, .bool w0, .bool w1, .bool ran, .bool going, .int .i64 frm, .int .i64 et, .int .i64 cv, .bool q, .bool p] 25)
  have B1 := Fact.mk (h1.trans (hb1.mono h1.size))
  clear h1 hb1 hrr
  go_wp2_with fail
  go_ret
  exact ⟨_, rfl, rd_nil _ _ _, B1.out, fresh_nil _⟩
set_option maxRecDepth 100000 in
set_option maxHeartbeats 1000000 in
theorem outs_1 (b : GBlock) (hk : b.kind = 1) (hR : rightBlk b = true) (w : World) : Calls Try.prog 16 #[vBlk b] w (OutsPost b w) := by
  have hrr : ∀ w, Calls Try.prog 13 #[vBlk b] w fun e w' => e = .returned (.bool true) ∧ Below w.heap.size w w' := fun w => by have := rblk_any b w; rwa [hR] at this
  obtain ⟨kind, w0, w1, ran, going, frm, et, cv, q, p⟩ := b
  obtain rfl : kind = 1 := hk
  have HR := Fact.mk hR
  clear hR
  unfold vBlk at hrr ⊢
  go_enter Try.func16, Try.ntmps16
  go_wp2_with fail
  refine (hrr _).mono ?_
  rintro e W1 ⟨rfl, hb1⟩
  obtain ⟨h1, h2, h3⟩ := one_block w (Obj.cells #[.int .u8 1, .bool w0, .bool w1, .bool ran, .bool going, .int .i64 frm, .int .i64 et, .int .i64 cv, .bool q, .bool p] 25)
  have hh := hb1.block w.heap.size (by rw [h3]; omega)
  rw [h2] at hh
  obtain ⟨d0, d1, d2, d3, d4, d5, d6, d7, d8, d9, -, -, -, -, -, -, -, -, -, -⟩ := row10 hh
  have B1 := Fact.mk (h1.trans (hb1.mono h1.size))
  clear h1 h2 h3 hh hb1 hrr
  by_cases hm : et ≤ 4294967295
  · have hmin : min et 4294967295 = et := by omega
    have HM := Fact.mk hmin
    clear hmin
    go_wp2_with (go_at_call 26; refine (truth_any _ _).mono ?_; rintro e w' ⟨rfl, rfl⟩)
    go_ret
    first | exact outs_end (b := ⟨1, w0, w1, ran, going, frm, et, cv, q, p⟩) B1.out [truthI q, et] (by simp [outsB, outsK, HR.out, HM.out]) (Nat.le_of_ble_eq_true rfl) | exact outs_endN (b := ⟨1, w0, w1, ran, going, frm, et, cv, q, p⟩) (n := 1) B1.out [truthI q, et] (by simp [outsB, outsK, HR.out, HM.out]) (Nat.le_of_ble_eq_true rfl)
  · have hmin : min et 4294967295 = 4294967295 := by omega
    have HM := Fact.mk hmin
    clear hmin
    go_wp2_with (go_at_call 26; refine (truth_any _ _).mono ?_; rintro e w' ⟨rfl, rfl⟩)
    go_ret
    first | exact outs_end (b := ⟨1, w0, w1, ran, going, frm, et, cv, q, p⟩) B1.out [truthI q, 4294967295] (by simp [outsB, outsK, HR.out, HM.out]) (Nat.le_of_ble_eq_true rfl) | exact outs_endN (b := ⟨1, w0, w1, ran, going, frm, et, cv, q, p⟩) (n := 1) B1.out [truthI q, 4294967295] (by simp [outsB, outsK, HR.out, HM.out]) (Nat.le_of_ble_eq_true rfl)
set_option maxRecDepth 100000 in
set_option maxHeartbeats 1000000 in
theorem outs_2 (b : GBlock) (hk : b.kind = 2) (hR : rightBlk b = true) (w : World) : Calls Try.prog 16 #[vBlk b] w (OutsPost b w) := by
  have hrr : ∀ w, Calls Try.prog 13 #[vBlk b] w fun e w' => e = .returned (.bool true) ∧ Below w.heap.size w w' := fun w => by have := rblk_any b w; rwa [hR] at this
  obtain ⟨kind, w0, w1, ran, going, frm, et, cv, q, p⟩ := b
  obtain rfl : kind = 2 := hk
  have HR := Fact.mk hR
  clear hR
  unfold vBlk at hrr ⊢
  go_enter Try.func16, Try.ntmps16
  go_wp2_with fail
  refine (hrr _).mono ?_
  rintro e W1 ⟨rfl, hb1⟩
  obtain ⟨h1, h2, h3⟩ := one_block w (Obj.cells #[.int .u8 2, .bool w0, .bool w1, .bool ran, .bool going, .int .i64 frm, .int .i64 et, .int .i64 cv, .bool q, .bool p] 25)
  have hh := hb1.block w.heap.size (by rw [h3]; omega)
  rw [h2] at hh
  obtain ⟨d0, d1, d2, d3, d4, d5, d6, d7, d8, d9, -, -, -, -, -, -, -, -, -, -⟩ := row10 hh
  have B1 := Fact.mk (h1.trans (hb1.mono h1.size))
  clear h1 h2 h3 hh hb1 hrr
  by_cases hm : et ≤ 4294967295
  · have hmin : min et 4294967295 = et := by omega
    have HM := Fact.mk hmin
    clear hmin
    go_wp2_with (go_at_call 26; refine (truth_any _ _).mono ?_; rintro e w' ⟨rfl, rfl⟩)
    go_ret
    first | exact outs_end (b := ⟨2, w0, w1, ran, going, frm, et, cv, q, p⟩) B1.out [truthI q, et] (by simp [outsB, outsK, HR.out, HM.out]) (Nat.le_of_ble_eq_true rfl) | exact outs_endN (b := ⟨2, w0, w1, ran, going, frm, et, cv, q, p⟩) (n := 1) B1.out [truthI q, et] (by simp [outsB, outsK, HR.out, HM.out]) (Nat.le_of_ble_eq_true rfl)
  · have hmin : min et 4294967295 = 4294967295 := by omega
    have HM := Fact.mk hmin
    clear hmin
    go_wp2_with (go_at_call 26; refine (truth_any _ _).mono ?_; rintro e w' ⟨rfl, rfl⟩)
    go_ret
    first | exact outs_end (b := ⟨2, w0, w1, ran, going, frm, et, cv, q, p⟩) B1.out [truthI q, 4294967295] (by simp [outsB, outsK, HR.out, HM.out]) (Nat.le_of_ble_eq_true rfl) | exact outs_endN (b := ⟨2, w0, w1, ran, going, frm, et, cv, q, p⟩) (n := 1) B1.out [truthI q, 4294967295] (by simp [outsB, outsK, HR.out, HM.out]) (Nat.le_of_ble_eq_true rfl)
set_option maxRecDepth 100000 in
set_option maxHeartbeats 1000000 in
theorem outs_3 (b : GBlock) (hk : b.kind = 3) (hR : rightBlk b = true) (w : World) : Calls Try.prog 16 #[vBlk b] w (OutsPost b w) := by
  have hrr : ∀ w, Calls Try.prog 13 #[vBlk b] w fun e w' => e = .returned (.bool true) ∧ Below w.heap.size w w' := fun w => by have := rblk_any b w; rwa [hR] at this
  obtain ⟨kind, w0, w1, ran, going, frm, et, cv, q, p⟩ := b
  obtain rfl : kind = 3 := hk
  have HR := Fact.mk hR
  clear hR
  unfold vBlk at hrr ⊢
  go_enter Try.func16, Try.ntmps16
  go_wp2_with fail
  refine (hrr _).mono ?_
  rintro e W1 ⟨rfl, hb1⟩
  obtain ⟨h1, h2, h3⟩ := one_block w (Obj.cells #[.int .u8 3, .bool w0, .bool w1, .bool ran, .bool going, .int .i64 frm, .int .i64 et, .int .i64 cv, .bool q, .bool p] 25)
  have hh := hb1.block w.heap.size (by rw [h3]; omega)
  rw [h2] at hh
  obtain ⟨d0, d1, d2, d3, d4, d5, d6, d7, d8, d9, -, -, -, -, -, -, -, -, -, -⟩ := row10 hh
  have B1 := Fact.mk (h1.trans (hb1.mono h1.size))
  clear h1 h2 h3 hh hb1 hrr
  by_cases hm : et ≤ 4294967295
  · have hmin : min et 4294967295 = et := by omega
    have HM := Fact.mk hmin
    clear hmin
    go_wp2_with (go_at_call 26; refine (truth_any _ _).mono ?_; rintro e w' ⟨rfl, rfl⟩)
    go_ret
    first | exact outs_end (b := ⟨3, w0, w1, ran, going, frm, et, cv, q, p⟩) B1.out [truthI q, et] (by simp [outsB, outsK, HR.out, HM.out]) (Nat.le_of_ble_eq_true rfl) | exact outs_endN (b := ⟨3, w0, w1, ran, going, frm, et, cv, q, p⟩) (n := 1) B1.out [truthI q, et] (by simp [outsB, outsK, HR.out, HM.out]) (Nat.le_of_ble_eq_true rfl)
  · have hmin : min et 4294967295 = 4294967295 := by omega
    have HM := Fact.mk hmin
    clear hmin
    go_wp2_with (go_at_call 26; refine (truth_any _ _).mono ?_; rintro e w' ⟨rfl, rfl⟩)
    go_ret
    first | exact outs_end (b := ⟨3, w0, w1, ran, going, frm, et, cv, q, p⟩) B1.out [truthI q, 4294967295] (by simp [outsB, outsK, HR.out, HM.out]) (Nat.le_of_ble_eq_true rfl) | exact outs_endN (b := ⟨3, w0, w1, ran, going, frm, et, cv, q, p⟩) (n := 1) B1.out [truthI q, 4294967295] (by simp [outsB, outsK, HR.out, HM.out]) (Nat.le_of_ble_eq_true rfl)
set_option maxRecDepth 100000 in
set_option maxHeartbeats 1000000 in
theorem outs_4 (b : GBlock) (hk : b.kind = 4) (hR : rightBlk b = true) (w : World) : Calls Try.prog 16 #[vBlk b] w (OutsPost b w) := by
  have hrr : ∀ w, Calls Try.prog 13 #[vBlk b] w fun e w' => e = .returned (.bool true) ∧ Below w.heap.size w w' := fun w => by have := rblk_any b w; rwa [hR] at this
  obtain ⟨kind, w0, w1, ran, going, frm, et, cv, q, p⟩ := b
  obtain rfl : kind = 4 := hk
  have HR := Fact.mk hR
  clear hR
  unfold vBlk at hrr ⊢
  go_enter Try.func16, Try.ntmps16
  go_wp2_with fail
  refine (hrr _).mono ?_
  rintro e W1 ⟨rfl, hb1⟩
  obtain ⟨h1, h2, h3⟩ := one_block w (Obj.cells #[.int .u8 4, .bool w0, .bool w1, .bool ran, .bool going, .int .i64 frm, .int .i64 et, .int .i64 cv, .bool q, .bool p] 25)
  have hh := hb1.block w.heap.size (by rw [h3]; omega)
  rw [h2] at hh
  obtain ⟨d0, d1, d2, d3, d4, d5, d6, d7, d8, d9, -, -, -, -, -, -, -, -, -, -⟩ := row10 hh
  have B1 := Fact.mk (h1.trans (hb1.mono h1.size))
  clear h1 h2 h3 hh hb1 hrr
  go_wp2_with (go_at_call 26; refine (truth_any _ _).mono ?_; rintro e w' ⟨rfl, rfl⟩)
  all_goals go_ret
  all_goals (first | exact outs_end (b := ⟨4, w0, w1, ran, going, frm, et, cv, q, p⟩) B1.out [truthI q, cv] (by simp [outsB, outsK, HR.out]) (Nat.le_of_ble_eq_true rfl) | exact outs_endN (b := ⟨4, w0, w1, ran, going, frm, et, cv, q, p⟩) (n := 1) B1.out [truthI q, cv] (by simp [outsB, outsK, HR.out]) (Nat.le_of_ble_eq_true rfl))
set_option maxRecDepth 100000 in
set_option maxHeartbeats 1000000 in
theorem outs_5 (b : GBlock) (hk : b.kind = 5) (hR : rightBlk b = true) (w : World) : Calls Try.prog 16 #[vBlk b] w (OutsPost b w) := by
  have hrr : ∀ w, Calls Try.prog 13 #[vBlk b] w fun e w' => e = .returned (.bool true) ∧ Below w.heap.size w w' := fun w => by have := rblk_any b w; rwa [hR] at this
  obtain ⟨kind, w0, w1, ran, going, frm, et, cv, q, p⟩ := b
  obtain rfl : kind = 5 := hk
  have HR := Fact.mk hR
  clear hR
  unfold vBlk at hrr ⊢
  go_enter Try.func16, Try.ntmps16
  go_wp2_with fail
  refine (hrr _).mono ?_
  rintro e W1 ⟨rfl, hb1⟩
  obtain ⟨h1, h2, h3⟩ := one_block w (Obj.cells #[.int .u8 5, .bool w0, .bool w1, .bool ran, .bool going, .int .i64 frm, .int .i64 et, .int .i64 cv, .bool q, .bool p] 25)
  have hh := hb1.block w.heap.size (by rw [h3]; omega)
  rw [h2] at hh
  obtain ⟨d0, d1, d2, d3, d4, d5, d6, d7, d8, d9, -, -, -, -, -, -, -, -, -, -⟩ := row10 hh
  have B1 := Fact.mk (h1.trans (hb1.mono h1.size))
  clear h1 h2 h3 hh hb1 hrr
  go_wp2_with (go_at_call 26; refine (truth_any _ _).mono ?_; rintro e w' ⟨rfl, rfl⟩)
  all_goals go_ret
  all_goals (first | exact outs_end (b := ⟨5, w0, w1, ran, going, frm, et, cv, q, p⟩) B1.out [truthI q, cv] (by simp [outsB, outsK, HR.out]) (Nat.le_of_ble_eq_true rfl) | exact outs_endN (b := ⟨5, w0, w1, ran, going, frm, et, cv, q, p⟩) (n := 1) B1.out [truthI q, cv] (by simp [outsB, outsK, HR.out]) (Nat.le_of_ble_eq_true rfl))
set_option maxRecDepth 100000 in
set_option maxHeartbeats 1000000 in
theorem outs_6 (b : GBlock) (hk : b.kind = 6) (hR : rightBlk b = true) (w : World) : Calls Try.prog 16 #[vBlk b] w (OutsPost b w) := by
  have hrr : ∀ w, Calls Try.prog 13 #[vBlk b] w fun e w' => e = .returned (.bool true) ∧ Below w.heap.size w w' := fun w => by have := rblk_any b w; rwa [hR] at this
  obtain ⟨kind, w0, w1, ran, going, frm, et, cv, q, p⟩ := b
  obtain rfl : kind = 6 := hk
  have HR := Fact.mk hR
  clear hR
  unfold vBlk at hrr ⊢
  go_enter Try.func16, Try.ntmps16
  go_wp2_with fail
  refine (hrr _).mono ?_
  rintro e W1 ⟨rfl, hb1⟩
  obtain ⟨h1, h2, h3⟩ := one_block w (Obj.cells #[.int .u8 6, .bool w0, .bool w1, .bool ran, .bool going, .int .i64 frm, .int .i64 et, .int .i64 cv, .bool q, .bool p] 25)
  have hh := hb1.block w.heap.size (by rw [h3]; omega)
  rw [h2] at hh
  obtain ⟨d0, d1, d2, d3, d4, d5, d6, d7, d8, d9, -, -, -, -, -, -, -, -, -, -⟩ := row10 hh
  have B1 := Fact.mk (h1.trans (hb1.mono h1.size))
  clear h1 h2 h3 hh hb1 hrr
  go_wp2_with (go_at_call 26; refine (truth_any _ _).mono ?_; rintro e w' ⟨rfl, rfl⟩)
  all_goals go_region_with (go_at_call 26; refine (truth_any _ _).mono ?_; rintro e w' ⟨rfl, rfl⟩)
  all_goals go_wp2_with (go_at_call 26; refine (truth_any _ _).mono ?_; rintro e w' ⟨rfl, rfl⟩)
  all_goals go_ret
  all_goals (first | exact outs_end (b := ⟨6, w0, w1, ran, going, frm, et, cv, q, p⟩) B1.out [truthI q, truthI p, cv] (by simp [outsB, outsK, HR.out]) (Nat.le_of_ble_eq_true rfl) | exact outs_endN (b := ⟨6, w0, w1, ran, going, frm, et, cv, q, p⟩) (n := 1) B1.out [truthI q, truthI p, cv] (by simp [outsB, outsK, HR.out]) (Nat.le_of_ble_eq_true rfl))
set_option maxRecDepth 100000 in
set_option maxHeartbeats 1000000 in
theorem outs_7 (b : GBlock) (hk : b.kind = 7) (hR : rightBlk b = true) (w : World) : Calls Try.prog 16 #[vBlk b] w (OutsPost b w) := by
  have hrr : ∀ w, Calls Try.prog 13 #[vBlk b] w fun e w' => e = .returned (.bool true) ∧ Below w.heap.size w w' := fun w => by have := rblk_any b w; rwa [hR] at this
  obtain ⟨kind, w0, w1, ran, going, frm, et, cv, q, p⟩ := b
  obtain rfl : kind = 7 := hk
  have HR := Fact.mk hR
  clear hR
  unfold vBlk at hrr ⊢
  go_enter Try.func16, Try.ntmps16
  go_wp2_with fail
  refine (hrr _).mono ?_
  rintro e W1 ⟨rfl, hb1⟩
  obtain ⟨h1, h2, h3⟩ := one_block w (Obj.cells #[.int .u8 7, .bool w0, .bool w1, .bool ran, .bool going, .int .i64 frm, .int .i64 et, .int .i64 cv, .bool q, .bool p] 25)
  have hh := hb1.block w.heap.size (by rw [h3]; omega)
  rw [h2] at hh
  obtain ⟨d0, d1, d2, d3, d4, d5, d6, d7, d8, d9, -, -, -, -, -, -, -, -, -, -⟩ := row10 hh
  have B1 := Fact.mk (h1.trans (hb1.mono h1.size))
  clear h1 h2 h3 hh hb1 hrr
  go_wp2_with (go_at_call 26; refine (truth_any _ _).mono ?_; rintro e w' ⟨rfl, rfl⟩)
  all_goals go_ret
  all_goals (first | exact outs_end (b := ⟨7, w0, w1, ran, going, frm, et, cv, q, p⟩) B1.out [truthI q] (by simp [outsB, outsK, HR.out]) (Nat.le_of_ble_eq_true rfl) | exact outs_endN (b := ⟨7, w0, w1, ran, going, frm, et, cv, q, p⟩) (n := 1) B1.out [truthI q] (by simp [outsB, outsK, HR.out]) (Nat.le_of_ble_eq_true rfl))
set_option maxRecDepth 100000 in
set_option maxHeartbeats 1000000 in
theorem outs_8 (b : GBlock) (hk : b.kind = 8) (hR : rightBlk b = true) (w : World) : Calls Try.prog 16 #[vBlk b] w (OutsPost b w) := by
  have hrr : ∀ w, Calls Try.prog 13 #[vBlk b] w fun e w' => e = .returned (.bool true) ∧ Below w.heap.size w w' := fun w => by have := rblk_any b w; rwa [hR] at this
  obtain ⟨kind, w0, w1, ran, going, frm, et, cv, q, p⟩ := b
  obtain rfl : kind = 8 := hk
  have HR := Fact.mk hR
  clear hR
  unfold vBlk at hrr ⊢
  go_enter Try.func16, Try.ntmps16
  go_wp2_with fail
  refine (hrr _).mono ?_
  rintro e W1 ⟨rfl, hb1⟩
  obtain ⟨h1, h2, h3⟩ := one_block w (Obj.cells #[.int .u8 8, .bool w0, .bool w1, .bool ran, .bool going, .int .i64 frm, .int .i64 et, .int .i64 cv, .bool q, .bool p] 25)
  have hh := hb1.block w.heap.size (by rw [h3]; omega)
  rw [h2] at hh
  obtain ⟨d0, d1, d2, d3, d4, d5, d6, d7, d8, d9, -, -, -, -, -, -, -, -, -, -⟩ := row10 hh
  have B1 := Fact.mk (h1.trans (hb1.mono h1.size))
  clear h1 h2 h3 hh hb1 hrr
  go_wp2_with (go_at_call 26; refine (truth_any _ _).mono ?_; rintro e w' ⟨rfl, rfl⟩)
  all_goals go_ret
  all_goals (first | exact outs_end (b := ⟨8, w0, w1, ran, going, frm, et, cv, q, p⟩) B1.out [truthI q] (by simp [outsB, outsK, HR.out]) (Nat.le_of_ble_eq_true rfl) | exact outs_endN (b := ⟨8, w0, w1, ran, going, frm, et, cv, q, p⟩) (n := 1) B1.out [truthI q] (by simp [outsB, outsK, HR.out]) (Nat.le_of_ble_eq_true rfl))
set_option maxRecDepth 100000 in
set_option maxHeartbeats 1000000 in
theorem outs_9 (b : GBlock) (hk : b.kind = 9) (hR : rightBlk b = true) (w : World) : Calls Try.prog 16 #[vBlk b] w (OutsPost b w) := by
  have hrr : ∀ w, Calls Try.prog 13 #[vBlk b] w fun e w' => e = .returned (.bool true) ∧ Below w.heap.size w w' := fun w => by have := rblk_any b w; rwa [hR] at this
  obtain ⟨kind, w0, w1, ran, going, frm, et, cv, q, p⟩ := b
  obtain rfl : kind = 9 := hk
  have HR := Fact.mk hR
  clear hR
  unfold vBlk at hrr ⊢
  go_enter Try.func16, Try.ntmps16
  go_wp2_with fail
  refine (hrr _).mono ?_
  rintro e W1 ⟨rfl, hb1⟩
  obtain ⟨h1, h2, h3⟩ := one_block w (Obj.cells #[.int .u8 9, .bool w0, .bool w1, .bool ran, .bool going, .int .i64 frm, .int .i64 et, .int .i64 cv, .bool q, .bool p] 25)
  have hh := hb1.block w.heap.size (by rw [h3]; omega)
  rw [h2] at hh
  obtain ⟨d0, d1, d2, d3, d4, d5, d6, d7, d8, d9, -, -, -, -, -, -, -, -, -, -⟩ := row10 hh
  have B1 := Fact.mk (h1.trans (hb1.mono h1.size))
  clear h1 h2 h3 hh hb1 hrr
  go_wp2_with (go_at_call 26; refine (truth_any _ _).mono ?_; rintro e w' ⟨rfl, rfl⟩)
  all_goals go_ret
  all_goals (first | exact outs_end (b := ⟨9, w0, w1, ran, going, frm, et, cv, q, p⟩) B1.out [truthI q] (by simp [outsB, outsK, HR.out]) (Nat.le_of_ble_eq_true rfl) | exact outs_endN (b := ⟨9, w0, w1, ran, going, frm, et, cv, q, p⟩) (n := 1) B1.out [truthI q] (by simp [outsB, outsK, HR.out]) (Nat.le_of_ble_eq_true rfl))
set_option maxRecDepth 100000 in
set_option maxHeartbeats 1000000 in
theorem outs_10 (b : GBlock) (hk : b.kind = 10) (hR : rightBlk b = true) (w : World) : Calls Try.prog 16 #[vBlk b] w (OutsPost b w) := by
  have hrr : ∀ w, Calls Try.prog 13 #[vBlk b] w fun e w' => e = .returned (.bool true) ∧ Below w.heap.size w w' := fun w => by have := rblk_any b w; rwa [hR] at this
  obtain ⟨kind, w0, w1, ran, going, frm, et, cv, q, p⟩ := b
  obtain rfl : kind = 10 := hk
  have HR := Fact.mk hR
  clear hR
  unfold vBlk at hrr ⊢
  go_enter Try.func16, Try.ntmps16
  go_wp2_with fail
  refine (hrr _).mono ?_
  rintro e W1 ⟨rfl, hb1⟩
  obtain ⟨h1, h2, h3⟩ := one_block w (Obj.cells #[.int .u8 10, .bool w0, .bool w1, .bool ran, .bool going, .int .i64 frm, .int .i64 et, .int .i64 cv, .bool q, .bool p] 25)
  have hh := hb1.block w.heap.size (by rw [h3]; omega)
  rw [h2] at hh
  obtain ⟨d0, d1, d2, d3, d4, d5, d6, d7, d8, d9, -, -, -, -, -, -, -, -, -, -⟩ := row10 hh
  have B1 := Fact.mk (h1.trans (hb1.mono h1.size))
  clear h1 h2 h3 hh hb1 hrr
  go_wp2_with (go_at_call 26; refine (truth_any _ _).mono ?_; rintro e w' ⟨rfl, rfl⟩)
  all_goals go_ret
  all_goals (first | exact outs_end (b := ⟨10, w0, w1, ran, going, frm, et, cv, q, p⟩) B1.out [truthI q] (by simp [outsB, outsK, HR.out]) (Nat.le_of_ble_eq_true rfl) | exact outs_endN (b := ⟨10, w0, w1, ran, going, frm, et, cv, q, p⟩) (n := 1) B1.out [truthI q] (by simp [outsB, outsK, HR.out]) (Nat.le_of_ble_eq_true rfl))
set_option maxRecDepth 100000 in
set_option maxHeartbeats 1000000 in
theorem outs_11 (b : GBlock) (hk : b.kind = 11) (hR : rightBlk b = true) (w : World) : Calls Try.prog 16 #[vBlk b] w (OutsPost b w) := by
  have hrr : ∀ w, Calls Try.prog 13 #[vBlk b] w fun e w' => e = .returned (.bool true) ∧ Below w.heap.size w w' := fun w => by have := rblk_any b w; rwa [hR] at this
  obtain ⟨kind, w0, w1, ran, going, frm, et, cv, q, p⟩ := b
  obtain rfl : kind = 11 := hk
  have HR := Fact.mk hR
  clear hR
  unfold vBlk at hrr ⊢
  go_enter Try.func16, Try.ntmps16
  go_wp2_with fail
  refine (hrr _).mono ?_
  rintro e W1 ⟨rfl, hb1⟩
  obtain ⟨h1, h2, h3⟩ := one_block w (Obj.cells #[.int .u8 11, .bool w0, .bool w1, .bool ran, .bool going, .int .i64 frm, .int .i64 et, .int .i64 cv, .bool q, .bool p] 25)
  have hh := hb1.block w.heap.size (by rw [h3]; omega)
  rw [h2] at hh
  obtain ⟨d0, d1, d2, d3, d4, d5, d6, d7, d8, d9, -, -, -, -, -, -, -, -, -, -⟩ := row10 hh
  have B1 := Fact.mk (h1.trans (hb1.mono h1.size))
  clear h1 h2 h3 hh hb1 hrr
  go_wp2_with (go_at_call 26; refine (truth_any _ _).mono ?_; rintro e w' ⟨rfl, rfl⟩)
  all_goals go_ret
  all_goals (first | exact outs_end (b := ⟨11, w0, w1, ran, going, frm, et, cv, q, p⟩) B1.out [cv, truthI q] (by simp [outsB, outsK, HR.out]) (Nat.le_of_ble_eq_true rfl) | exact outs_endN (b := ⟨11, w0, w1, ran, going, frm, et, cv, q, p⟩) (n := 1) B1.out [cv, truthI q] (by simp [outsB, outsK, HR.out]) (Nat.le_of_ble_eq_true rfl))
theorem outs_any (b : GBlock) (w : World) : Calls Try.prog 16 #[vBlk b] w (OutsPost b w) := by
  cases hR : rightBlk b with
  | false => exact outs_none b hR w
  | true =>
    rcases right_kinds hR with hk | hk | hk | hk | hk | hk | hk | hk | hk | hk | hk
    · exact outs_1 b hk hR w
    · exact outs_2 b hk hR w
    · exact outs_3 b hk hR w
    · exact outs_4 b hk hR w
    · exact outs_5 b hk hR w
    · exact outs_6 b hk hR w
    · exact outs_7 b hk hR w
    · exact outs_8 b hk hR w
    · exact outs_9 b hk hR w
    · exact outs_10 b hk hR w
    · exact outs_11 b hk hR w
end Go.Proofs.Ytjanofopmmndoaa

