/- Contract of blocks.Run. -/
import Derived.Test.YtiogpainajokkaaRunsM
import Derived.Test.YtiogpainajokkaaR4M
import Derived.Test.YtiogpainajokkaaRun6
import Derived.Test.YtiogpainajokkaaR9M
import Derived.Test.YtiogpainajokkaaRBlkM
import Derived.Test.YtiogpainajokkaaBlkM
import Derived.Deep.RegionWith
namespace Go.Proofs.Ytiogpainajokkaa
open Go.RowKit
set_option maxRecDepth 100000 in
set_option maxHeartbeats 1000000 in
theorem run_bad (b : GBlock) (ins : List Int) (vs : Value) (now : Int) (w : World) (hr : Rd oneI64 1 w vs ins) (hm : ¬ mayB b ins now = 0) : Calls Try.prog 135 #[vBlk b, vs, .int .i64 now] w fun e w' => e = .returned (.tuple #[vBlk b, .int .i64 (mayB b ins now)]) ∧ Below w.heap.size w w' := by
  obtain ⟨kind, w0, w1, ran, going, frm, et, cv, q, p⟩ := b
  have hmay := may_any ⟨kind, w0, w1, ran, going, frm, et, cv, q, p⟩ ins _ now _ (hr.below (two_blocks w (Obj.cells #[.int .u8 kind, .bool w0, .bool w1, .bool ran, .bool going, .int .i64 frm, .int .i64 et, .int .i64 cv, .bool q, .bool p] 67) (Obj.cells #[.int .u8 0, .bool false, .bool false, .bool false, .bool false, .int .i64 0, .int .i64 0, .int .i64 0, .bool false, .bool false] 67)).1)
  obtain ⟨A, n, c, rfl⟩ := Rd.slice hr
  obtain ⟨m, hme⟩ : ∃ m, mayB ⟨kind, w0, w1, ran, going, frm, et, cv, q, p⟩ ins now = m := ⟨_, rfl⟩
  rw [hme] at hm hmay ⊢
  have hm1 : (m == 0) = false := beq_eq_false_iff_ne.2 hm
  have hm2 : (m != 0) = true := bne_iff_ne.2 hm
  clear hme hr
  unfold vBlk at hmay ⊢
  go_enter Try.func135, Try.ntmps135
  go_wp2_with fail
  refine hmay.mono ?_
  rintro e W1 ⟨rfl, hb1⟩
  obtain ⟨t1, t2, t3, t4⟩ := two_blocks w (Obj.cells #[.int .u8 kind, .bool w0, .bool w1, .bool ran, .bool going, .int .i64 frm, .int .i64 et, .int .i64 cv, .bool q, .bool p] 67) (Obj.cells #[.int .u8 0, .bool false, .bool false, .bool false, .bool false, .int .i64 0, .int .i64 0, .int .i64 0, .bool false, .bool false] 67)
  have s1 : w.heap.size + 1 + 1 ≤ W1.heap.size := by have := hb1.size; rw [t4] at this; exact this
  have r1 := hb1.block w.heap.size (by rw [t4]; omega)
  rw [t2] at r1
  have r2 := hb1.block (w.heap.size + 1) (by rw [t4]; omega)
  rw [t3] at r2
  have B1 := Fact.mk (t1.trans (hb1.mono t1.size))
  have R2 := Fact.mk r2
  obtain ⟨d0, d1, d2, d3, d4, d5, d6, d7, d8, d9, -, -, -, -, -, -, -, -, -, -⟩ := row10 r1
  obtain ⟨l0, l1, l2, l3, l4, l5, l6, l7, l8, l9, m0, m1, m2, m3, m4, m5, m6, m7, m8, m9⟩ := row10 r2
  clear t1 t2 t3 t4 r1 r2 hb1 hmay s1
  go_wp2_with fail
  obtain ⟨w2, e2, h2, g2⟩ := store10 R2.out (.int .u8 kind) (.bool w0) (.bool w1) (.bool ran) (.bool going) (.int .i64 frm) (.int .i64 et) (.int .i64 cv) (.bool q) (.bool p)
  rw [e2]
  exact bodyPost_ret (res_cell_tmp Try.results135 _ w2 (w.heap.size + 1) rfl h2 Try.underlying67 rfl Try.sizeBlk) rfl ⟨rfl, B1.out.trans (grown_Below g2 B1.out.size (by omega))⟩
theorem kind_cases {b : GBlock} (h : rightBlk b = true) : b.kind = 1 ∨ b.kind = 2 ∨ b.kind = 3 ∨ b.kind = 4 ∨ b.kind = 5 ∨ b.kind = 6 ∨ b.kind = 7 ∨ b.kind = 8 ∨ b.kind = 9 ∨ b.kind = 10 ∨ b.kind = 11 := by
  by_cases hk : b.kind < 1 ∨ 11 < b.kind
  · rw [rightBlk, useB_odd hk, Bool.and_false] at h; cases h
  · omega
theorem run_any (b : GBlock) (ins : List Int) (vs : Value) (now : Int) (w : World) (hr : Rd oneI64 1 w vs ins) : Calls Try.prog 135 #[vBlk b, vs, .int .i64 now] w fun e w' => e = .returned (.tuple #[vBlk (runB b ins now).1, .int .i64 (runB b ins now).2]) ∧ Below w.heap.size w w' := by
  by_cases hm : mayB b ins now = 0
  · have e : runB b ins now = (stepB b ins now, 0) := if_pos hm
    rw [e]
    rcases kind_cases (mayB_ok hm).1 with hk | hk | hk | hk | hk | hk | hk | hk | hk | hk | hk
    · exact run_1 b ins vs now w hr hk hm
    · exact run_2 b ins vs now w hr hk hm
    · exact run_3 b ins vs now w hr hk hm
    · exact run_4 b ins vs now w hr hk hm
    · exact run_5 b ins vs now w hr hk hm
    · exact run_6 b ins vs now w hr hk hm
    · exact run_7 b ins vs now w hr hk hm
    · exact run_8 b ins vs now w hr hk hm
    · exact run_9 b ins vs now w hr hk hm
    · exact run_10 b ins vs now w hr hk hm
    · exact run_11 b ins vs now w hr hk hm
  · have e : runB b ins now = (b, mayB b ins now) := if_neg hm
    rw [e]
    exact run_bad b ins vs now w hr hm
end Go.Proofs.Ytiogpainajokkaa

namespace Go.Proofs.Ytiogpainajokkaa
open Go.RowKit
def truthI (b : Bool) : Int := if b = true then 1 else 0
def outsK (b : GBlock) : List Int :=
  if b.kind = 1 ∨ b.kind = 2 ∨ b.kind = 3 then [truthI b.q, min b.et 4294967295] else if b.kind = 4 ∨ b.kind = 5 then [truthI b.q, b.cv] else if b.kind = 6 then [truthI b.q, truthI b.p, b.cv] else if b.kind = 11 then [b.cv, truthI b.q] else [truthI b.q]
def outsB (b : GBlock) : List Int := if rightBlk b = true then outsK b else []
/-- A value whose row is new. -/
def Fresh (w : World) (v : Value) : Prop := ∀ k, v.ownBlock = some k → w.heap.size ≤ k
theorem fresh_new {w W1 : World} {n c : Nat} (h : w.heap.size ≤ W1.heap.size) : Fresh w (.slice (some ⟨W1.heap.size, 0, none⟩) n c) := fun k hk => by
  simp only [Value.ownBlock, Option.some.injEq] at hk
  omega
theorem fresh_nil (w : World) : Fresh w (.slice none 0 0) := fun k hk => by cases hk
def OutsPost (b : GBlock) (w : World) (e : Ending) (w' : World) : Prop := ∃ v, e = .returned v ∧ Rd oneI64 1 w' v (outsB b) ∧ Below w.heap.size w w' ∧ Fresh w v
theorem outs_end {w W1 : World} {b : GBlock} {T : TypeId} (B1 : Below w.heap.size w W1) (xs : List Int) (hx : xs = outsB b) (hl : xs.length ≤ 9) : OutsPost b w (.returned (.slice (some ⟨W1.heap.size, 0, none⟩) xs.length xs.length)) (W1.alloc (.cells (xs.flatMap oneI64).toArray T)) := by
  subst hx
  exact ⟨_, rfl, rd_new oneI64 1 oneI64_len W1 _ T (by omega), B1.alloc B1.size _, fresh_new B1.size⟩
theorem outs_endN {w W1 : World} {b : GBlock} {T : TypeId} {n : Nat} (B1 : Below w.heap.size w W1) (xs : List Int) (hx : xs = outsB b) (hl : xs.length ≤ 9) : OutsPost b w (.returned (.slice (some ⟨W1.heap.size, 0, none⟩) xs.length xs.length)) ((W1.alloc (.cells (xs.flatMap oneI64).toArray T)).drewN n) := by
  obtain ⟨v, h1, h2, h3, h4⟩ := outs_end (T := T) B1 xs hx hl
  exact ⟨v, h1, h2.below ⟨rfl, rfl, rfl, Nat.le_refl _, fun _ _ => rfl⟩, h3.trans ⟨rfl, rfl, rfl, Nat.le_refl _, fun _ _ => rfl⟩, h4⟩
theorem right_kinds {b : GBlock} (h : rightBlk b = true) : b.kind = 1 ∨ b.kind = 2 ∨ b.kind = 3 ∨ b.kind = 4 ∨ b.kind = 5 ∨ b.kind = 6 ∨ b.kind = 7 ∨ b.kind = 8 ∨ b.kind = 9 ∨ b.kind = 10 ∨ b.kind = 11 := by
  by_cases hk : b.kind < 1 ∨ 11 < b.kind
  · rw [rightBlk, useB_odd hk, Bool.and_false] at h; cases h
  · omega
theorem truth_any (b : Bool) (w : World) : Calls Try.prog 136 #[.bool b] w fun e w' => e = .returned (.int .i64 (truthI b)) ∧ w' = w := by
  cases b
  all_goals
    go_enter Try.func136, Try.ntmps136
    go_wp2
    go_ret
    exact ⟨rfl, rfl⟩
set_option maxRecDepth 100000 in
theorem outs_none (b : GBlock) (hR : rightBlk b = false) (w : World) : Calls Try.prog 83 #[vBlk b] w (OutsPost b w) := by
  have hrr : ∀ w, Calls Try.prog 77 #[vBlk b] w fun e w' => e = .returned (.bool false) ∧ Below w.heap.size w w' := fun w => by have := rblk_any b w; rwa [hR] at this
  have e : outsB b = [] := by simp [outsB, hR]
  unfold OutsPost
  rw [e]
  clear e hR
  obtain ⟨kind, w0, w1, ran, going, frm, et, cv, q, p⟩ := b
  unfold vBlk at hrr ⊢
  go_enter Try.func83, Try.ntmps83
  go_wp2_with fail
  refine (hrr _).mono ?_
  rintro e W1 ⟨rfl, hb1⟩
  obtain ⟨h1, -, -⟩ := one_block w (Obj.cells #[.int .u8 kind, .bool w0, .bool w1, .bool ran, .bool going, .int .i64 frm, .int .i64 et, .int .i64 cv, .bool q, .bool p] 67)
  have B1 := Fact.mk (h1.trans (hb1.mono h1.size))
  clear h1 hb1 hrr
  go_wp2_with fail
  go_ret
  exact ⟨_, rfl, rd_nil _ _ _, B1.out, fresh_nil _⟩
set_option maxRecDepth 100000 in
set_option maxHeartbeats 1000000 in
theorem outs_1 (b : GBlock) (hk : b.kind = 1) (hR : rightBlk b = true) (w : World) : Calls Try.prog 83 #[vBlk b] w (OutsPost b w) := by
  have hrr : ∀ w, Calls Try.prog 77 #[vBlk b] w fun e w' => e = .returned (.bool true) ∧ Below w.heap.size w w' := fun w => by have := rblk_any b w; rwa [hR] at this
  obtain ⟨kind, w0, w1, ran, going, frm, et, cv, q, p⟩ := b
  obtain rfl : kind = 1 := hk
  have HR := Fact.mk hR
  clear hR
  unfold vBlk at hrr ⊢
  go_enter Try.func83, Try.ntmps83
  go_wp2_with fail
  refine (hrr _).mono ?_
  rintro e W1 ⟨rfl, hb1⟩
  obtain ⟨h1, h2, h3⟩ := one_block w (Obj.cells #[.int .u8 1, .bool w0, .bool w1, .bool ran, .bool going, .int .i64 frm, .int .i64 et, .int .i64 cv, .bool q, .bool p] 67)
  have hh := hb1.block w.heap.size (by rw [h3]; omega)
  rw [h2] at hh
  obtain ⟨d0, d1, d2, d3, d4, d5, d6, d7, d8, d9, -, -, -, -, -, -, -, -, -, -⟩ := row10 hh
  have B1 := Fact.mk (h1.trans (hb1.mono h1.size))
  clear h1 h2 h3 hh hb1 hrr
  by_cases hm : et ≤ 4294967295
  · have hmin : min et 4294967295 = et := by omega
    have HM := Fact.mk hmin
    clear hmin
    go_wp2_with (go_at_call 136; refine (truth_any _ _).mono ?_; rintro e w' ⟨rfl, rfl⟩)
    go_ret
    first | exact outs_end (b := ⟨1, w0, w1, ran, going, frm, et, cv, q, p⟩) B1.out [truthI q, et] (by simp [outsB, outsK, HR.out, HM.out]) (Nat.le_of_ble_eq_true rfl) | exact outs_endN (b := ⟨1, w0, w1, ran, going, frm, et, cv, q, p⟩) (n := 1) B1.out [truthI q, et] (by simp [outsB, outsK, HR.out, HM.out]) (Nat.le_of_ble_eq_true rfl)
  · have hmin : min et 4294967295 = 4294967295 := by omega
    have HM := Fact.mk hmin
    clear hmin
    go_wp2_with (go_at_call 136; refine (truth_any _ _).mono ?_; rintro e w' ⟨rfl, rfl⟩)
    go_ret
    first | exact outs_end (b := ⟨1, w0, w1, ran, going, frm, et, cv, q, p⟩) B1.out [truthI q, 4294967295] (by simp [outsB, outsK, HR.out, HM.out]) (Nat.le_of_ble_eq_true rfl) | exact outs_endN (b := ⟨1, w0, w1, ran, going, frm, et, cv, q, p⟩) (n := 1) B1.out [truthI q, 4294967295] (by simp [outsB, outsK, HR.out, HM.out]) (Nat.le_of_ble_eq_true rfl)
set_option maxRecDepth 100000 in
set_option maxHeartbeats 1000000 in
theorem outs_2 (b : GBlock) (hk : b.kind = 2) (hR : rightBlk b = true) (w : World) : Calls Try.prog 83 #[vBlk b] w (OutsPost b w) := by
  have hrr : ∀ w, Calls Try.prog 77 #[vBlk b] w fun e w' => e = .returned (.bool true) ∧ Below w.heap.size w w' := fun w => by have := rblk_any b w; rwa [hR] at this
  obtain ⟨kind, w0, w1, ran, going, frm, et, cv, q, p⟩ := b
  obtain rfl : kind = 2 := hk
  have HR := Fact.mk hR
  clear hR
  unfold vBlk at hrr ⊢
  go_enter Try.func83, Try.ntmps83
  go_wp2_with fail
  refine (hrr _).mono ?_
  rintro e W1 ⟨rfl, hb1⟩
  obtain ⟨h1, h2, h3⟩ := one_block w (Obj.cells #[.int .u8 2, .bool w0, .bool w1, .bool ran, .bool going, .int .i64 frm, .int .i64 et, .int .i64 cv, .bool q, .bool p] 67)
  have hh := hb1.block w.heap.size (by rw [h3]; omega)
  rw [h2] at hh
  obtain ⟨d0, d1, d2, d3, d4, d5, d6, d7, d8, d9, -, -, -, -, -, -, -, -, -, -⟩ := row10 hh
  have B1 := Fact.mk (h1.trans (hb1.mono h1.size))
  clear h1 h2 h3 hh hb1 hrr
  by_cases hm : et ≤ 4294967295
  · have hmin : min et 4294967295 = et := by omega
    have HM := Fact.mk hmin
    clear hmin
    go_wp2_with (go_at_call 136; refine (truth_any _ _).mono ?_; rintro e w' ⟨rfl, rfl⟩)
    go_ret
    first | exact outs_end (b := ⟨2, w0, w1, ran, going, frm, et, cv, q, p⟩) B1.out [truthI q, et] (by simp [outsB, outsK, HR.out, HM.out]) (Nat.le_of_ble_eq_true rfl) | exact outs_endN (b := ⟨2, w0, w1, ran, going, frm, et, cv, q, p⟩) (n := 1) B1.out [truthI q, et] (by simp [outsB, outsK, HR.out, HM.out]) (Nat.le_of_ble_eq_true rfl)
  · have hmin : min et 4294967295 = 4294967295 := by omega
    have HM := Fact.mk hmin
    clear hmin
    go_wp2_with (go_at_call 136; refine (truth_any _ _).mono ?_; rintro e w' ⟨rfl, rfl⟩)
    go_ret
    first | exact outs_end (b := ⟨2, w0, w1, ran, going, frm, et, cv, q, p⟩) B1.out [truthI q, 4294967295] (by simp [outsB, outsK, HR.out, HM.out]) (Nat.le_of_ble_eq_true rfl) | exact outs_endN (b := ⟨2, w0, w1, ran, going, frm, et, cv, q, p⟩) (n := 1) B1.out [truthI q, 4294967295] (by simp [outsB, outsK, HR.out, HM.out]) (Nat.le_of_ble_eq_true rfl)
set_option maxRecDepth 100000 in
set_option maxHeartbeats 1000000 in
theorem outs_3 (b : GBlock) (hk : b.kind = 3) (hR : rightBlk b = true) (w : World) : Calls Try.prog 83 #[vBlk b] w (OutsPost b w) := by
  have hrr : ∀ w, Calls Try.prog 77 #[vBlk b] w fun e w' => e = .returned (.bool true) ∧ Below w.heap.size w w' := fun w => by have := rblk_any b w; rwa [hR] at this
  obtain ⟨kind, w0, w1, ran, going, frm, et, cv, q, p⟩ := b
  obtain rfl : kind = 3 := hk
  have HR := Fact.mk hR
  clear hR
  unfold vBlk at hrr ⊢
  go_enter Try.func83, Try.ntmps83
  go_wp2_with fail
  refine (hrr _).mono ?_
  rintro e W1 ⟨rfl, hb1⟩
  obtain ⟨h1, h2, h3⟩ := one_block w (Obj.cells #[.int .u8 3, .bool w0, .bool w1, .bool ran, .bool going, .int .i64 frm, .int .i64 et, .int .i64 cv, .bool q, .bool p] 67)
  have hh := hb1.block w.heap.size (by rw [h3]; omega)
  rw [h2] at hh
  obtain ⟨d0, d1, d2, d3, d4, d5, d6, d7, d8, d9, -, -, -, -, -, -, -, -, -, -⟩ := row10 hh
  have B1 := Fact.mk (h1.trans (hb1.mono h1.size))
  clear h1 h2 h3 hh hb1 hrr
  by_cases hm : et ≤ 4294967295
  · have hmin : min et 4294967295 = et := by omega
    have HM := Fact.mk hmin
    clear hmin
    go_wp2_with (go_at_call 136; refine (truth_any _ _).mono ?_; rintro e w' ⟨rfl, rfl⟩)
    go_ret
    first | exact outs_end (b := ⟨3, w0, w1, ran, going, frm, et, cv, q, p⟩) B1.out [truthI q, et] (by simp [outsB, outsK, HR.out, HM.out]) (Nat.le_of_ble_eq_true rfl) | exact outs_endN (b := ⟨3, w0, w1, ran, going, frm, et, cv, q, p⟩) (n := 1) B1.out [truthI q, et] (by simp [outsB, outsK, HR.out, HM.out]) (Nat.le_of_ble_eq_true rfl)
  · have hmin : min et 4294967295 = 4294967295 := by omega
    have HM := Fact.mk hmin
    clear hmin
    go_wp2_with (go_at_call 136; refine (truth_any _ _).mono ?_; rintro e w' ⟨rfl, rfl⟩)
    go_ret
    first | exact outs_end (b := ⟨3, w0, w1, ran, going, frm, et, cv, q, p⟩) B1.out [truthI q, 4294967295] (by simp [outsB, outsK, HR.out, HM.out]) (Nat.le_of_ble_eq_true rfl) | exact outs_endN (b := ⟨3, w0, w1, ran, going, frm, et, cv, q, p⟩) (n := 1) B1.out [truthI q, 4294967295] (by simp [outsB, outsK, HR.out, HM.out]) (Nat.le_of_ble_eq_true rfl)
set_option maxRecDepth 100000 in
set_option maxHeartbeats 1000000 in
theorem outs_4 (b : GBlock) (hk : b.kind = 4) (hR : rightBlk b = true) (w : World) : Calls Try.prog 83 #[vBlk b] w (OutsPost b w) := by
  have hrr : ∀ w, Calls Try.prog 77 #[vBlk b] w fun e w' => e = .returned (.bool true) ∧ Below w.heap.size w w' := fun w => by have := rblk_any b w; rwa [hR] at this
  obtain ⟨kind, w0, w1, ran, going, frm, et, cv, q, p⟩ := b
  obtain rfl : kind = 4 := hk
  have HR := Fact.mk hR
  clear hR
  unfold vBlk at hrr ⊢
  go_enter Try.func83, Try.ntmps83
  go_wp2_with fail
  refine (hrr _).mono ?_
  rintro e W1 ⟨rfl, hb1⟩
  obtain ⟨h1, h2, h3⟩ := one_block w (Obj.cells #[.int .u8 4, .bool w0, .bool w1, .bool ran, .bool going, .int .i64 frm, .int .i64 et, .int .i64 cv, .bool q, .bool p] 67)
  have hh := hb1.block w.heap.size (by rw [h3]; omega)
  rw [h2] at hh
  obtain ⟨d0, d1, d2, d3, d4, d5, d6, d7, d8, d9, -, -, -, -, -, -, -, -, -, -⟩ := row10 hh
  have B1 := Fact.mk (h1.trans (hb1.mono h1.size))
  clear h1 h2 h3 hh hb1 hrr
  go_wp2_with (go_at_call 136; refine (truth_any _ _).mono ?_; rintro e w' ⟨rfl, rfl⟩)
  all_goals go_ret
  all_goals (first | exact outs_end (b := ⟨4, w0, w1, ran, going, frm, et, cv, q, p⟩) B1.out [truthI q, cv] (by simp [outsB, outsK, HR.out]) (Nat.le_of_ble_eq_true rfl) | exact outs_endN (b := ⟨4, w0, w1, ran, going, frm, et, cv, q, p⟩) (n := 1) B1.out [truthI q, cv] (by simp [outsB, outsK, HR.out]) (Nat.le_of_ble_eq_true rfl))
set_option maxRecDepth 100000 in
set_option maxHeartbeats 1000000 in
theorem outs_5 (b : GBlock) (hk : b.kind = 5) (hR : rightBlk b = true) (w : World) : Calls Try.prog 83 #[vBlk b] w (OutsPost b w) := by
  have hrr : ∀ w, Calls Try.prog 77 #[vBlk b] w fun e w' => e = .returned (.bool true) ∧ Below w.heap.size w w' := fun w => by have := rblk_any b w; rwa [hR] at this
  obtain ⟨kind, w0, w1, ran, going, frm, et, cv, q, p⟩ := b
  obtain rfl : kind = 5 := hk
  have HR := Fact.mk hR
  clear hR
  unfold vBlk at hrr ⊢
  go_enter Try.func83, Try.ntmps83
  go_wp2_with fail
  refine (hrr _).mono ?_
  rintro e W1 ⟨rfl, hb1⟩
  obtain ⟨h1, h2, h3⟩ := one_block w (Obj.cells #[.int .u8 5, .bool w0, .bool w1, .bool ran, .bool going, .int .i64 frm, .int .i64 et, .int .i64 cv, .bool q, .bool p] 67)
  have hh := hb1.block w.heap.size (by rw [h3]; omega)
  rw [h2] at hh
  obtain ⟨d0, d1, d2, d3, d4, d5, d6, d7, d8, d9, -, -, -, -, -, -, -, -, -, -⟩ := row10 hh
  have B1 := Fact.mk (h1.trans (hb1.mono h1.size))
  clear h1 h2 h3 hh hb1 hrr
  go_wp2_with (go_at_call 136; refine (truth_any _ _).mono ?_; rintro e w' ⟨rfl, rfl⟩)
  all_goals go_ret
  all_goals (first | exact outs_end (b := ⟨5, w0, w1, ran, going, frm, et, cv, q, p⟩) B1.out [truthI q, cv] (by simp [outsB, outsK, HR.out]) (Nat.le_of_ble_eq_true rfl) | exact outs_endN (b := ⟨5, w0, w1, ran, going, frm, et, cv, q, p⟩) (n := 1) B1.out [truthI q, cv] (by simp [outsB, outsK, HR.out]) (Nat.le_of_ble_eq_true rfl))
set_option maxRecDepth 100000 in
set_option maxHeartbeats 1000000 in
theorem outs_6 (b : GBlock) (hk : b.kind = 6) (hR : rightBlk b = true) (w : World) : Calls Try.prog 83 #[vBlk b] w (OutsPost b w) := by
  have hrr : ∀ w, Calls Try.prog 77 #[vBlk b] w fun e w' => e = .returned (.bool true) ∧ Below w.heap.size w w' := fun w => by have := rblk_any b w; rwa [hR] at this
  obtain ⟨kind, w0, w1, ran, going, frm, et, cv, q, p⟩ := b
  obtain rfl : kind = 6 := hk
  have HR := Fact.mk hR
  clear hR
  unfold vBlk at hrr ⊢
  go_enter Try.func83, Try.ntmps83
  go_wp2_with fail
  refine (hrr _).mono ?_
  rintro e W1 ⟨rfl, hb1⟩
  obtain ⟨h1, h2, h3⟩ := one_block w (Obj.cells #[.int .u8 6, .bool w0, .bool w1, .bool ran, .bool going, .int .i64 frm, .int .i64 et, .int .i64 cv, .bool q, .bool p] 67)
  have hh := hb1.block w.heap.size (by rw [h3]; omega)
  rw [h2] at hh
  obtain ⟨d0, d1, d2, d3, d4, d5, d6, d7, d8, d9, -, -, -, -, -, -, -, -, -, -⟩ := row10 hh
  have B1 := Fact.mk (h1.trans (hb1.mono h1.size))
  clear h1 h2 h3 hh hb1 hrr
  go_wp2_with (go_at_call 136; refine (truth_any _ _).mono ?_; rintro e w' ⟨rfl, rfl⟩)
  all_goals go_region_with (go_at_call 136; refine (truth_any _ _).mono ?_; rintro e w' ⟨rfl, rfl⟩)
  all_goals go_wp2_with (go_at_call 136; refine (truth_any _ _).mono ?_; rintro e w' ⟨rfl, rfl⟩)
  all_goals go_ret
  all_goals (first | exact outs_end (b := ⟨6, w0, w1, ran, going, frm, et, cv, q, p⟩) B1.out [truthI q, truthI p, cv] (by simp [outsB, outsK, HR.out]) (Nat.le_of_ble_eq_true rfl) | exact outs_endN (b := ⟨6, w0, w1, ran, going, frm, et, cv, q, p⟩) (n := 1) B1.out [truthI q, truthI p, cv] (by simp [outsB, outsK, HR.out]) (Nat.le_of_ble_eq_true rfl))
set_option maxRecDepth 100000 in
set_option maxHeartbeats 1000000 in
theorem outs_7 (b : GBlock) (hk : b.kind = 7) (hR : rightBlk b = true) (w : World) : Calls Try.prog 83 #[vBlk b] w (OutsPost b w) := by
  have hrr : ∀ w, Calls Try.prog 77 #[vBlk b] w fun e w' => e = .returned (.bool true) ∧ Below w.heap.size w w' := fun w => by have := rblk_any b w; rwa [hR] at this
  obtain ⟨kind, w0, w1, ran, going, frm, et, cv, q, p⟩ := b
  obtain rfl : kind = 7 := hk
  have HR := Fact.mk hR
  clear hR
  unfold vBlk at hrr ⊢
  go_enter Try.func83, Try.ntmps83
  go_wp2_with fail
  refine (hrr _).mono ?_
  rintro e W1 ⟨rfl, hb1⟩
  obtain ⟨h1, h2, h3⟩ := one_block w (Obj.cells #[.int .u8 7, .bool w0, .bool w1, .bool ran, .bool going, .int .i64 frm, .int .i64 et, .int .i64 cv, .bool q, .bool p] 67)
  have hh := hb1.block w.heap.size (by rw [h3]; omega)
  rw [h2] at hh
  obtain ⟨d0, d1, d2, d3, d4, d5, d6, d7, d8, d9, -, -, -, -, -, -, -, -, -, -⟩ := row10 hh
  have B1 := Fact.mk (h1.trans (hb1.mono h1.size))
  clear h1 h2 h3 hh hb1 hrr
  go_wp2_with (go_at_call 136; refine (truth_any _ _).mono ?_; rintro e w' ⟨rfl, rfl⟩)
  all_goals go_ret
  all_goals (first | exact outs_end (b := ⟨7, w0, w1, ran, going, frm, et, cv, q, p⟩) B1.out [truthI q] (by simp [outsB, outsK, HR.out]) (Nat.le_of_ble_eq_true rfl) | exact outs_endN (b := ⟨7, w0, w1, ran, going, frm, et, cv, q, p⟩) (n := 1) B1.out [truthI q] (by simp [outsB, outsK, HR.out]) (Nat.le_of_ble_eq_true rfl))
set_option maxRecDepth 100000 in
set_option maxHeartbeats 1000000 in
theorem outs_8 (b : GBlock) (hk : b.kind = 8) (hR : rightBlk b = true) (w : World) : Calls Try.prog 83 #[vBlk b] w (OutsPost b w) := by
  have hrr : ∀ w, Calls Try.prog 77 #[vBlk b] w fun e w' => e = .returned (.bool true) ∧ Below w.heap.size w w' := fun w => by have := rblk_any b w; rwa [hR] at this
  obtain ⟨kind, w0, w1, ran, going, frm, et, cv, q, p⟩ := b
  obtain rfl : kind = 8 := hk
  have HR := Fact.mk hR
  clear hR
  unfold vBlk at hrr ⊢
  go_enter Try.func83, Try.ntmps83
  go_wp2_with fail
  refine (hrr _).mono ?_
  rintro e W1 ⟨rfl, hb1⟩
  obtain ⟨h1, h2, h3⟩ := one_block w (Obj.cells #[.int .u8 8, .bool w0, .bool w1, .bool ran, .bool going, .int .i64 frm, .int .i64 et, .int .i64 cv, .bool q, .bool p] 67)
  have hh := hb1.block w.heap.size (by rw [h3]; omega)
  rw [h2] at hh
  obtain ⟨d0, d1, d2, d3, d4, d5, d6, d7, d8, d9, -, -, -, -, -, -, -, -, -, -⟩ := row10 hh
  have B1 := Fact.mk (h1.trans (hb1.mono h1.size))
  clear h1 h2 h3 hh hb1 hrr
  go_wp2_with (go_at_call 136; refine (truth_any _ _).mono ?_; rintro e w' ⟨rfl, rfl⟩)
  all_goals go_ret
  all_goals (first | exact outs_end (b := ⟨8, w0, w1, ran, going, frm, et, cv, q, p⟩) B1.out [truthI q] (by simp [outsB, outsK, HR.out]) (Nat.le_of_ble_eq_true rfl) | exact outs_endN (b := ⟨8, w0, w1, ran, going, frm, et, cv, q, p⟩) (n := 1) B1.out [truthI q] (by simp [outsB, outsK, HR.out]) (Nat.le_of_ble_eq_true rfl))
set_option maxRecDepth 100000 in
set_option maxHeartbeats 1000000 in
theorem outs_9 (b : GBlock) (hk : b.kind = 9) (hR : rightBlk b = true) (w : World) : Calls Try.prog 83 #[vBlk b] w (OutsPost b w) := by
  have hrr : ∀ w, Calls Try.prog 77 #[vBlk b] w fun e w' => e = .returned (.bool true) ∧ Below w.heap.size w w' := fun w => by have := rblk_any b w; rwa [hR] at this
  obtain ⟨kind, w0, w1, ran, going, frm, et, cv, q, p⟩ := b
  obtain rfl : kind = 9 := hk
  have HR := Fact.mk hR
  clear hR
  unfold vBlk at hrr ⊢
  go_enter Try.func83, Try.ntmps83
  go_wp2_with fail
  refine (hrr _).mono ?_
  rintro e W1 ⟨rfl, hb1⟩
  obtain ⟨h1, h2, h3⟩ := one_block w (Obj.cells #[.int .u8 9, .bool w0, .bool w1, .bool ran, .bool going, .int .i64 frm, .int .i64 et, .int .i64 cv, .bool q, .bool p] 67)
  have hh := hb1.block w.heap.size (by rw [h3]; omega)
  rw [h2] at hh
  obtain ⟨d0, d1, d2, d3, d4, d5, d6, d7, d8, d9, -, -, -, -, -, -, -, -, -, -⟩ := row10 hh
  have B1 := Fact.mk (h1.trans (hb1.mono h1.size))
  clear h1 h2 h3 hh hb1 hrr
  go_wp2_with (go_at_call 136; refine (truth_any _ _).mono ?_; rintro e w' ⟨rfl, rfl⟩)
  all_goals go_ret
  all_goals (first | exact outs_end (b := ⟨9, w0, w1, ran, going, frm, et, cv, q, p⟩) B1.out [truthI q] (by simp [outsB, outsK, HR.out]) (Nat.le_of_ble_eq_true rfl) | exact outs_endN (b := ⟨9, w0, w1, ran, going, frm, et, cv, q, p⟩) (n := 1) B1.out [truthI q] (by simp [outsB, outsK, HR.out]) (Nat.le_of_ble_eq_true rfl))
set_option maxRecDepth 100000 in
set_option maxHeartbeats 1000000 in
theorem outs_10 (b : GBlock) (hk : b.kind = 10) (hR : rightBlk b = true) (w : World) : Calls Try.prog 83 #[vBlk b] w (OutsPost b w) := by
  have hrr : ∀ w, Calls Try.prog 77 #[vBlk b] w fun e w' => e = .returned (.bool true) ∧ Below w.heap.size w w' := fun w => by have := rblk_any b w; rwa [hR] at this
  obtain ⟨kind, w0, w1, ran, going, frm, et, cv, q, p⟩ := b
  obtain rfl : kind = 10 := hk
  have HR := Fact.mk hR
  clear hR
  unfold vBlk at hrr ⊢
  go_enter Try.func83, Try.ntmps83
  go_wp2_with fail
  refine (hrr _).mono ?_
  rintro e W1 ⟨rfl, hb1⟩
  obtain ⟨h1, h2, h3⟩ := one_block w (Obj.cells #[.int .u8 10, .bool w0, .bool w1, .bool ran, .bool going, .int .i64 frm, .int .i64 et, .int .i64 cv, .bool q, .bool p] 67)
  have hh := hb1.block w.heap.size (by rw [h3]; omega)
  rw [h2] at hh
  obtain ⟨d0, d1, d2, d3, d4, d5, d6, d7, d8, d9, -, -, -, -, -, -, -, -, -, -⟩ := row10 hh
  have B1 := Fact.mk (h1.trans (hb1.mono h1.size))
  clear h1 h2 h3 hh hb1 hrr
  go_wp2_with (go_at_call 136; refine (truth_any _ _).mono ?_; rintro e w' ⟨rfl, rfl⟩)
  all_goals go_ret
  all_goals (first | exact outs_end (b := ⟨10, w0, w1, ran, going, frm, et, cv, q, p⟩) B1.out [truthI q] (by simp [outsB, outsK, HR.out]) (Nat.le_of_ble_eq_true rfl) | exact outs_endN (b := ⟨10, w0, w1, ran, going, frm, et, cv, q, p⟩) (n := 1) B1.out [truthI q] (by simp [outsB, outsK, HR.out]) (Nat.le_of_ble_eq_true rfl))
set_option maxRecDepth 100000 in
set_option maxHeartbeats 1000000 in
theorem outs_11 (b : GBlock) (hk : b.kind = 11) (hR : rightBlk b = true) (w : World) : Calls Try.prog 83 #[vBlk b] w (OutsPost b w) := by
  have hrr : ∀ w, Calls Try.prog 77 #[vBlk b] w fun e w' => e = .returned (.bool true) ∧ Below w.heap.size w w' := fun w => by have := rblk_any b w; rwa [hR] at this
  obtain ⟨kind, w0, w1, ran, going, frm, et, cv, q, p⟩ := b
  obtain rfl : kind = 11 := hk
  have HR := Fact.mk hR
  clear hR
  unfold vBlk at hrr ⊢
  go_enter Try.func83, Try.ntmps83
  go_wp2_with fail
  refine (hrr _).mono ?_
  rintro e W1 ⟨rfl, hb1⟩
  obtain ⟨h1, h2, h3⟩ := one_block w (Obj.cells #[.int .u8 11, .bool w0, .bool w1, .bool ran, .bool going, .int .i64 frm, .int .i64 et, .int .i64 cv, .bool q, .bool p] 67)
  have hh := hb1.block w.heap.size (by rw [h3]; omega)
  rw [h2] at hh
  obtain ⟨d0, d1, d2, d3, d4, d5, d6, d7, d8, d9, -, -, -, -, -, -, -, -, -, -⟩ := row10 hh
  have B1 := Fact.mk (h1.trans (hb1.mono h1.size))
  clear h1 h2 h3 hh hb1 hrr
  go_wp2_with (go_at_call 136; refine (truth_any _ _).mono ?_; rintro e w' ⟨rfl, rfl⟩)
  all_goals go_ret
  all_goals (first | exact outs_end (b := ⟨11, w0, w1, ran, going, frm, et, cv, q, p⟩) B1.out [cv, truthI q] (by simp [outsB, outsK, HR.out]) (Nat.le_of_ble_eq_true rfl) | exact outs_endN (b := ⟨11, w0, w1, ran, going, frm, et, cv, q, p⟩) (n := 1) B1.out [cv, truthI q] (by simp [outsB, outsK, HR.out]) (Nat.le_of_ble_eq_true rfl))
theorem outs_any (b : GBlock) (w : World) : Calls Try.prog 83 #[vBlk b] w (OutsPost b w) := by
  cases hR : rightBlk b with
  | false => exact outs_none b hR w
  | true =>
    rcases right_kinds hR with hk | hk | hk | hk | hk | hk | hk | hk | hk | hk | hk
    · exact outs_1 b hk hR w
    · exact outs_2 b hk hR w
    · exact outs_3 b hk hR w
    · exact outs_4 b hk hR w
    · exact outs_5 b hk hR w
    · exact outs_6 b hk hR w
    · exact outs_7 b hk hR w
    · exact outs_8 b hk hR w
    · exact outs_9 b hk hR w
    · exact outs_10 b hk hR w
    · exact outs_11 b hk hR w
end Go.Proofs.Ytiogpainajokkaa

namespace Go.Proofs.Ytiogpainajokkaa
open Go.RowKit
def tmB (k : Int) (was going : Bool) (frm et : Int) (q : Bool) : GBlock := ⟨k, was, false, false, going, frm, et, 0, q, false⟩
structure TmOk (k : Int) (going : Bool) (frm et : Int) : Prop where
  kind : k = 1 ∨ k = 2 ∨ k = 3
  f1 : 0 ≤ frm
  f2 : frm ≤ 1125899906842624
  e1 : 0 ≤ et
  e2 : et ≤ 1125899906842624
  g : going = true ∨ frm = 0
theorem right_tm {k : Int} {was going : Bool} {frm et : Int} {q : Bool} (h : TmOk k going frm et) : rightBlk (tmB k was going frm et q) = true := by
  obtain ⟨hk, f1, f2, e1, e2, hg⟩ := h
  simp [rightBlk, bndB, useB, tmB, f1, f2, e1, e2, hk]
  rcases hg with rfl | rfl <;> simp
theorem truthI_le (x : Bool) : 0 ≤ truthI x ∧ truthI x ≤ 1 := by cases x <;> simp [truthI]
theorem onB_truth (x : Bool) (l : List Int) : onB (truthI x :: l) 0 = x := by cases x <;> rfl
theorem may_tm {k : Int} {was going : Bool} {frm et : Int} {q : Bool} (h : TmOk k going frm et) (x : Bool) {p t : Int} (p1 : 0 ≤ p) (p2 : p ≤ 4294967295) (t1 : 0 ≤ t) (t2 : t ≤ 1125899906842624) : mayB (tmB k was going frm et q) [truthI x, p] t = 0 := by
  have hp : pinsIn (tmB k was going frm et q).kind = [1, 5] := by
    rcases h.kind with rfl | rfl | rfl <;> rfl
  have hx := truthI_le x
  have ho : okIns [1, 5] [truthI x, p] = true := by simp [okIns, inR, rangeOf, hx.1, hx.2, p1, p2]
  unfold mayB
  rw [if_pos (right_tm h), hp, ho]
  simp [t1, t2]
theorem run_tm {k : Int} {was going : Bool} {frm et : Int} {q : Bool} (h : TmOk k going frm et) (x : Bool) {p t : Int} (p1 : 0 ≤ p) (p2 : p ≤ 4294967295) (t1 : 0 ≤ t) (t2 : t ≤ 1125899906842624) :
    runB (tmB k was going frm et q) [truthI x, p] t = ({ timerB (tmB k was going frm et q) (x && !was) x t p with w0 := x }, 0) := by
  unfold runB
  rw [if_pos (may_tm h x p1 p2 t1 t2)]
  have hk : (tmB k was going frm et q).kind = 1 ∨ (tmB k was going frm et q).kind = 2 ∨ (tmB k was going frm et q).kind = 3 := h.kind
  unfold stepB
  rw [if_pos hk, onB_truth]
  rfl
theorem outs_tm {k : Int} {was going : Bool} {frm et : Int} {q : Bool} (h : TmOk k going frm et) : outsB (tmB k was going frm et q) = [truthI q, min et 4294967295] := by
  unfold outsB outsK
  rw [if_pos (right_tm h)]
  exact if_pos h.kind
/-- A timer that is on late, its input 1. -/
theorem run_ton {was going : Bool} {frm et : Int} {q : Bool} (h : TmOk 1 going frm et) {p t : Int} (p1 : 0 ≤ p) (p2 : p ≤ 4294967295) (t1 : 0 ≤ t) (t2 : t ≤ 1125899906842624) :
    runB (tmB 1 was going frm et q) [1, p] t = (tmB 1 true true (if going = true then frm else t) (min (max (t - (if going = true then frm else t)) 0) p) (decide (p ≤ max (t - (if going = true then frm else t)) 0)), 0) :=
  run_tm h true p1 p2 t1 t2
end Go.Proofs.Ytiogpainajokkaa

namespace Go.Proofs.Ytiogpainajokkaa
open Go.RowKit
theorem pul_go_over (was x : Bool) (f e : Int) {p nw : Int} (h : p ≤ max (nw - f) 0) (r : Bool) : timerB (tmB 3 was true f e true) r x nw p = tmB 3 was false 0 (if x = true then min (max (nw - f) 0) p else 0) false := by
  have ho : overB (tmB 3 was true f e true) nw p = true := decide_eq_true h
  have e1 : timerB (tmB 3 was true f e true) r x nw p = pulseE (pulseC (pulseA (tmB 3 was true f e true) r nw) nw p) x := rfl
  have e2 : pulseA (tmB 3 was true f e true) r nw = tmB 3 was true f e true := by cases r <;> rfl
  have e3 : pulseC (tmB 3 was true f e true) nw p = runOn (tmB 3 was true f e true) nw p := rfl
  rw [e1, e2, e3]
  unfold runOn
  rw [if_pos ho]
  cases x <;> rfl
theorem pul_go_on (was x : Bool) (f e : Int) {p nw : Int} (h : ¬ p ≤ max (nw - f) 0) (r : Bool) : timerB (tmB 3 was true f e true) r x nw p = tmB 3 was true f (min (max (nw - f) 0) p) true := by
  have ho : ¬ overB (tmB 3 was true f e true) nw p = true := fun hh => h (of_decide_eq_true hh)
  have e1 : timerB (tmB 3 was true f e true) r x nw p = pulseE (pulseC (pulseA (tmB 3 was true f e true) r nw) nw p) x := rfl
  have e2 : pulseA (tmB 3 was true f e true) r nw = tmB 3 was true f e true := by cases r <;> rfl
  have e3 : pulseC (tmB 3 was true f e true) nw p = runOn (tmB 3 was true f e true) nw p := rfl
  rw [e1, e2, e3]
  unfold runOn
  rw [if_neg ho]
  cases x <;> rfl
theorem pul_rise (e : Int) (p nw : Int) : timerB (tmB 3 false false 0 e false) true true nw p = timerB (tmB 3 false true nw e true) false true nw p := rfl
theorem pul_idle (e : Int) (p nw : Int) : timerB (tmB 3 true false 0 e false) false true nw p = tmB 3 true false 0 e false := rfl
theorem pul_idle0 (was : Bool) (e : Int) (p nw : Int) : timerB (tmB 3 was false 0 e false) false false nw p = tmB 3 was false 0 0 false := rfl
theorem on_off (was g q r : Bool) (f e : Int) (p nw : Int) : timerB (tmB 1 was g f e q) r false nw p = tmB 1 was false 0 0 false := rfl
theorem on_on (was g q r : Bool) (f e : Int) (p nw : Int) : timerB (tmB 1 was g f e q) r true nw p = tmB 1 was true (if g = true then f else nw) (min (max (nw - (if g = true then f else nw)) 0) p) (decide (p ≤ max (nw - (if g = true then f else nw)) 0)) := rfl
theorem off_on (was g q r : Bool) (f e : Int) (p nw : Int) : timerB (tmB 2 was g f e q) r true nw p = tmB 2 was false 0 0 true := rfl
theorem off_idle (was g r : Bool) (f e : Int) (p nw : Int) : timerB (tmB 2 was g f e false) r false nw p = tmB 2 was g f e false := rfl
theorem off_over (was g r : Bool) (f e : Int) {p nw : Int} (h : p ≤ max (nw - (if g = true then f else nw)) 0) : timerB (tmB 2 was g f e true) r false nw p = tmB 2 was false 0 (min (max (nw - (if g = true then f else nw)) 0) p) false := by
  have ho : overB (tmB 2 was g f e true) nw p = true := decide_eq_true h
  have e1 : timerB (tmB 2 was g f e true) r false nw p = runOn (tmB 2 was g f e true) nw p := rfl
  rw [e1]
  unfold runOn
  rw [if_pos ho]
  rfl
theorem off_goes (was g r : Bool) (f e : Int) {p nw : Int} (h : ¬ p ≤ max (nw - (if g = true then f else nw)) 0) : timerB (tmB 2 was g f e true) r false nw p = tmB 2 was true (if g = true then f else nw) (min (max (nw - (if g = true then f else nw)) 0) p) true := by
  have ho : ¬ overB (tmB 2 was g f e true) nw p = true := fun hh => h (of_decide_eq_true hh)
  have e1 : timerB (tmB 2 was g f e true) r false nw p = runOn (tmB 2 was g f e true) nw p := rfl
  rw [e1]
  unfold runOn
  rw [if_neg ho]
  rfl
theorem run_step {k : Int} {was g q x g' q' : Bool} {f e f' e' p t : Int} (h : TmOk k g f e) (p1 : 0 ≤ p) (p2 : p ≤ 4294967295) (t1 : 0 ≤ t) (t2 : t ≤ 1125899906842624) (hs : timerB (tmB k was g f e q) (x && !was) x t p = tmB k was g' f' e' q') : runB (tmB k was g f e q) [truthI x, p] t = (tmB k x g' f' e' q', 0) := by
  rw [run_tm h x p1 p2 t1 t2, hs]
  rfl
end Go.Proofs.Ytiogpainajokkaa

namespace Go.Proofs.Ytiogpainajokkaa
open Go.RowKit
def dkB (w0 w1 ran : Bool) (cv : Int) (q : Bool) : GBlock := ⟨11, w0, w1, ran, false, 0, 0, cv, q, false⟩
theorem right_dk {w0 w1 ran q : Bool} {cv : Int} (h1 : -1000 ≤ cv) (h2 : cv ≤ 1000) : rightBlk (dkB w0 w1 ran cv q) = true := by
  have a1 : decide (-2147483648 ≤ cv) = true := decide_eq_true (by omega)
  have a2 : decide (cv ≤ 2147483647) = true := decide_eq_true (by omega)
  unfold rightBlk bndB useB dkB
  simp only [a1, a2]
  rfl
theorem onB_1 (x y : Bool) (l : List Int) : onB (truthI x :: truthI y :: l) 1 = y := by cases y <;> rfl
theorem onB_2 (x y z : Bool) (l : List Int) : onB (truthI x :: truthI y :: truthI z :: l) 2 = z := by cases z <;> rfl
theorem may_dk {w0 w1 ran q : Bool} {cv : Int} (h1 : -1000 ≤ cv) (h2 : cv ≤ 1000) (x y z : Bool) : mayB (dkB w0 w1 ran cv q) [truthI x, truthI y, truthI z] 0 = 0 := by
  have ho : okIns [1, 1, 1] [truthI x, truthI y, truthI z] = true := by cases x <;> cases y <;> cases z <;> rfl
  have hp : pinsIn (dkB w0 w1 ran cv q).kind = [1, 1, 1] := rfl
  unfold mayB
  rw [if_pos (right_dk h1 h2), hp, ho]
  rfl
theorem run_dk {w0 w1 ran q : Bool} {cv : Int} (h1 : -1000 ≤ cv) (h2 : cv ≤ 1000) (x y z : Bool) : runB (dkB w0 w1 ran cv q) [truthI x, truthI y, truthI z] 0 = (dkB x y true (cvD cv z ran (turnOf x y w0 w1)) (qD q z ran (turnOf x y w0 w1)), 0) := by
  unfold runB
  rw [if_pos (may_dk h1 h2 x y z)]
  unfold stepB
  rw [if_neg (by simp [dkB]), if_neg (by simp [dkB]), if_neg (by simp [dkB]), if_neg (by simp [dkB]), if_neg (by simp [dkB]), if_neg (by simp [dkB]), onB_truth, onB_1, onB_2]
  rfl
theorem outs_dk {w0 w1 ran q : Bool} {cv : Int} (h1 : -1000 ≤ cv) (h2 : cv ≤ 1000) : outsB (dkB w0 w1 ran cv q) = [cv, truthI q] := by
  unfold outsB
  rw [if_pos (right_dk h1 h2)]
  rfl
/-- Where the two tracks are at a place of the way around. -/
def tr0 (a : Nat) : Bool := a == 1 || a == 2
def tr1 (a : Nat) : Bool := a == 2 || a == 3
theorem turn_at {a n : Nat} (ha : a < 4) (hn : n < 4) : turnOf (tr0 n) (tr1 n) (tr0 a) (tr1 a) = (n + 4 - a) % 4 := by
  rcases (by omega : a = 0 ∨ a = 1 ∨ a = 2 ∨ a = 3) with rfl | rfl | rfl | rfl <;> rcases (by omega : n = 0 ∨ n = 1 ∨ n = 2 ∨ n = 3) with rfl | rfl | rfl | rfl <;> rfl
end Go.Proofs.Ytiogpainajokkaa

namespace Go.Proofs.Ytiogpainajokkaa
open Go.RowKit
def ctB (w0 w1 : Bool) (cv : Int) (q p : Bool) : GBlock := ⟨6, w0, w1, false, false, 0, 0, cv, q, p⟩
theorem right_ct {w0 w1 q p : Bool} {cv : Int} (h1 : -2147483648 ≤ cv) (h2 : cv ≤ 2147483647) : rightBlk (ctB w0 w1 cv q p) = true := by
  have a1 : decide (-2147483648 ≤ cv) = true := decide_eq_true h1
  have a2 : decide (cv ≤ 2147483647) = true := decide_eq_true h2
  unfold rightBlk bndB useB ctB
  simp only [a1, a2]
  rfl
theorem may_ct {w0 w1 q p : Bool} {cv pv : Int} (h1 : -2147483648 ≤ cv) (h2 : cv ≤ 2147483647) (p1 : -2147483648 ≤ pv) (p2 : pv ≤ 2147483647) (a b c d : Bool) : mayB (ctB w0 w1 cv q p) [truthI a, truthI b, truthI c, truthI d, pv] 0 = 0 := by
  have hv : inR 4 pv = true := by simp [inR, rangeOf, p1, p2]
  have ht : ∀ x : Bool, inR 1 (truthI x) = true := fun x => by cases x <;> rfl
  have ho : okIns [1, 1, 1, 1, 4] [truthI a, truthI b, truthI c, truthI d, pv] = true := by
    simp only [okIns, ht, hv, Bool.and_self]
  have hp : pinsIn (ctB w0 w1 cv q p).kind = [1, 1, 1, 1, 4] := rfl
  unfold mayB
  rw [if_pos (right_ct h1 h2), hp, ho]
  rfl
theorem onB_2' (x y z : Bool) (l : List Int) : onB (truthI x :: truthI y :: truthI z :: l) 2 = z := by cases z <;> rfl
theorem onB_3 (x y z u : Bool) (l : List Int) : onB (truthI x :: truthI y :: truthI z :: truthI u :: l) 3 = u := by cases u <;> rfl
theorem run_ct {w0 w1 q p : Bool} {cv pv : Int} (h1 : -2147483648 ≤ cv) (h2 : cv ≤ 2147483647) (p1 : -2147483648 ≤ pv) (p2 : pv ≤ 2147483647) (a b c d : Bool) :
    runB (ctB w0 w1 cv q p) [truthI a, truthI b, truthI c, truthI d, pv] 0 = (ctB a b (cntC cv pv c d (a && !w0) (b && !w1)) (decide (pv ≤ cntC cv pv c d (a && !w0) (b && !w1))) (decide (cntC cv pv c d (a && !w0) (b && !w1) ≤ 0)), 0) := by
  unfold runB
  rw [if_pos (may_ct h1 h2 p1 p2 a b c d)]
  have hk : (ctB w0 w1 cv q p).kind = 4 ∨ (ctB w0 w1 cv q p).kind = 5 ∨ (ctB w0 w1 cv q p).kind = 6 := .inr (.inr rfl)
  unfold stepB
  rw [if_neg (by simp [ctB]), if_pos hk, onB_truth]
  unfold counterB zeroC loadC upC downC qC
  rw [onB_1, onB_2', onB_3]
  have e6 : (ctB w0 w1 cv q p).kind = 6 := rfl
  rw [e6]
  have e5 : ((a && !(ctB w0 w1 cv q p).w0) && !decide ((6 : Int) = 5)) = (a && !w0) := by simp [ctB]
  rw [e5]
  rfl
theorem outs_ct {w0 w1 q p : Bool} {cv : Int} (h1 : -2147483648 ≤ cv) (h2 : cv ≤ 2147483647) : outsB (ctB w0 w1 cv q p) = [truthI q, truthI p, cv] := by
  unfold outsB
  rw [if_pos (right_ct h1 h2)]
  rfl
theorem cntC_in {cv pv : Int} (h1 : -2147483648 ≤ cv) (h2 : cv ≤ 2147483647) (p1 : -2147483648 ≤ pv) (p2 : pv ≤ 2147483647) (z l u d : Bool) : -2147483648 ≤ cntC cv pv z l u d ∧ cntC cv pv z l u d ≤ 2147483647 := by
  unfold cntC stepC
  cases z <;> cases l <;> cases u <;> cases d <;> simp <;> omega
end Go.Proofs.Ytiogpainajokkaa

namespace Go.Proofs.Ytiogpainajokkaa
open Go.RowKit
theorem rightBlk_use {b : GBlock} (h : rightBlk b = true) : useB b = true := by
  simp only [rightBlk, Bool.and_eq_true] at h
  exact h.2
theorem right_tm_inv {b : GBlock} (h : rightBlk b = true) (hk : b.kind = 1 ∨ b.kind = 2 ∨ b.kind = 3) : ∃ w0 g f e q, b = tmB b.kind w0 g f e q ∧ TmOk b.kind g f e := by
  obtain ⟨q1, q2, q3, q4, q5, q6⟩ := rightBlk_bnd h
  have hu := rightBlk_use h
  obtain ⟨kind, w0, w1, ran, going, frm, et, cv, q, p⟩ := b
  unfold useB at hu
  rw [if_pos hk] at hu
  simp only [Bool.and_eq_true, Bool.not_eq_true', Bool.or_eq_true, decide_eq_true_eq] at hu
  obtain ⟨⟨⟨⟨rfl, rfl⟩, hg⟩, rfl⟩, rfl⟩ := hu
  exact ⟨w0, going, frm, et, q, rfl, ⟨hk, q1, q2, q3, q4, hg⟩⟩
theorem tm_step {k : Int} {was g q : Bool} {f e : Int} (h : TmOk k g f e) (r x : Bool) {p t : Int} (p1 : 0 ≤ p) (p2 : p ≤ 4294967295) (t1 : 0 ≤ t) (t2 : t ≤ 1125899906842624) : ∃ g' f' e' q', timerB (tmB k was g f e q) r x t p = tmB k was g' f' e' q' ∧ TmOk k g' f' e' := by
  obtain ⟨hk, f1, f2, e1, e2, hg⟩ := h
  rcases hk with rfl | rfl | rfl
  · cases x
    · exact ⟨_, _, _, _, on_off was g q r f e p t, .inl rfl, by omega, by omega, by omega, by omega, .inr rfl⟩
    · refine ⟨_, _, _, _, on_on was g q r f e p t, .inl rfl, ?_, ?_, by omega, by omega, .inl rfl⟩
      · split <;> omega
      · split <;> omega
  · cases x
    · cases q
      · exact ⟨_, _, _, _, off_idle was g r f e p t, .inr (.inl rfl), f1, f2, e1, e2, hg⟩
      · by_cases ho : p ≤ max (t - (if g = true then f else t)) 0
        · exact ⟨_, _, _, _, off_over was g r f e ho, .inr (.inl rfl), by omega, by omega, by omega, by omega, .inr rfl⟩
        · refine ⟨_, _, _, _, off_goes was g r f e ho, .inr (.inl rfl), ?_, ?_, by omega, by omega, .inl rfl⟩
          · split <;> omega
          · split <;> omega
    · exact ⟨_, _, _, _, off_on was g q r f e p t, .inr (.inl rfl), by omega, by omega, by omega, by omega, .inr rfl⟩
  · -- a pulse
    have hE : ∀ g f e q, (0 : Int) ≤ f → f ≤ 1125899906842624 → (0 : Int) ≤ e → e ≤ 1125899906842624 → (g = true ∨ f = 0) → ∃ g' f' e' q', pulseE (tmB 3 was g f e q) x = tmB 3 was g' f' e' q' ∧ TmOk 3 g' f' e' := by
      intro g f e q h1 h2 h3 h4 h5
      unfold pulseE
      split
      · exact ⟨g, f, 0, q, rfl, .inr (.inr rfl), h1, h2, by omega, by omega, h5⟩
      · exact ⟨g, f, e, q, rfl, .inr (.inr rfl), h1, h2, h3, h4, h5⟩
    have hC : ∀ g f e q, (0 : Int) ≤ f → f ≤ 1125899906842624 → (0 : Int) ≤ e → e ≤ 1125899906842624 → (g = true ∨ f = 0) → ∃ g' f' e' q', pulseC (tmB 3 was g f e q) t p = tmB 3 was g' f' e' q' ∧ (0 : Int) ≤ f' ∧ f' ≤ 1125899906842624 ∧ (0 : Int) ≤ e' ∧ e' ≤ 1125899906842624 ∧ (g' = true ∨ f' = 0) := by
      intro g f e q h1 h2 h3 h4 h5
      cases g
      · exact ⟨false, f, e, q, rfl, h1, h2, h3, h4, h5⟩
      · have e3 : pulseC (tmB 3 was true f e q) t p = runOn (tmB 3 was true f e q) t p := rfl
        rw [e3]
        unfold runOn
        split
        · exact ⟨false, 0, min (max (t - f) 0) p, false, rfl, by omega, by omega, by omega, by omega, .inr rfl⟩
        · exact ⟨true, f, min (max (t - f) 0) p, q, rfl, h1, h2, by omega, by omega, .inl rfl⟩
    have e1' : timerB (tmB 3 was g f e q) r x t p = pulseE (pulseC (pulseA (tmB 3 was g f e q) r t) t p) x := rfl
    rw [e1']
    have hA : ∃ g' f' q', pulseA (tmB 3 was g f e q) r t = tmB 3 was g' f' e q' ∧ (0 : Int) ≤ f' ∧ f' ≤ 1125899906842624 ∧ (g' = true ∨ f' = 0) := by
      unfold pulseA
      split
      · exact ⟨true, t, true, rfl, t1, t2, .inl rfl⟩
      · exact ⟨g, f, q, rfl, f1, f2, hg⟩
    obtain ⟨ga, fa, qa, ha, a1, a2, a3⟩ := hA
    rw [ha]
    obtain ⟨gc, fc, ec, qc, hc, c1, c2, c3, c4, c5⟩ := hC ga fa e qa a1 a2 e1 e2 a3
    rw [hc]
    exact hE gc fc ec qc c1 c2 c3 c4 c5
theorem inR_dint {x : Int} (h : inR 4 x = true) : -2147483648 ≤ x ∧ x ≤ 2147483647 := by
  simp only [inR, Bool.and_eq_true, decide_eq_true_eq] at h
  exact h
theorem inR_udint {x : Int} (h : inR 5 x = true) : 0 ≤ x ∧ x ≤ 4294967295 := by
  simp only [inR, Bool.and_eq_true, decide_eq_true_eq] at h
  exact h
theorem ok2 {t u : Int} {l : List Int} (h : okIns [t, u] l = true) : ∃ a b, l = [a, b] ∧ inR t a = true ∧ inR u b = true := by
  match l, okIns_len h, h with
  | [a, b], _, h =>
    simp only [okIns, Bool.and_true, Bool.and_eq_true] at h
    exact ⟨a, b, rfl, h.1, h.2⟩
theorem ok3 {t u v : Int} {l : List Int} (h : okIns [t, u, v] l = true) : ∃ a b c, l = [a, b, c] ∧ inR v c = true := by
  match l, okIns_len h, h with
  | [a, b, c], _, h =>
    simp only [okIns, Bool.and_true, Bool.and_eq_true] at h
    exact ⟨a, b, c, rfl, h.2.2⟩
theorem ok5 {t u v x y : Int} {l : List Int} (h : okIns [t, u, v, x, y] l = true) : ∃ a b c d e, l = [a, b, c, d, e] ∧ inR y e = true := by
  match l, okIns_len h, h with
  | [a, b, c, d, e], _, h =>
    simp only [okIns, Bool.and_true, Bool.and_eq_true] at h
    exact ⟨a, b, c, d, e, rfl, h.2.2.2.2⟩
theorem bnd_of {b : GBlock} (h : 0 ≤ b.frm ∧ b.frm ≤ 1125899906842624 ∧ 0 ≤ b.et ∧ b.et ≤ 1125899906842624 ∧ -2147483648 ≤ b.cv ∧ b.cv ≤ 2147483647) : bndB b = true := by
  obtain ⟨h1, h2, h3, h4, h5, h6⟩ := h
  simp [bndB, h1, h2, h3, h4, h5, h6]
theorem right_of {b : GBlock} (h : 0 ≤ b.frm ∧ b.frm ≤ 1125899906842624 ∧ 0 ≤ b.et ∧ b.et ≤ 1125899906842624 ∧ -2147483648 ≤ b.cv ∧ b.cv ≤ 2147483647) (hu : useB b = true) : rightBlk b = true := by
  rw [rightBlk, bnd_of h, hu]; rfl
theorem counter_in {b : GBlock} {pv : Int} (r : Bool) (ins : List Int) (h1 : -2147483648 ≤ b.cv) (h2 : b.cv ≤ 2147483647) (p1 : -2147483648 ≤ pv) (p2 : pv ≤ 2147483647) : -2147483648 ≤ (counterB b r ins pv).cv ∧ (counterB b r ins pv).cv ≤ 2147483647 := cntC_in h1 h2 p1 p2 _ _ _ _
theorem cvD_in {cv : Int} (h1 : -2147483648 ≤ cv) (h2 : cv ≤ 2147483647) (z r : Bool) (s : Nat) : -2147483648 ≤ cvD cv z r s ∧ cvD cv z r s ≤ 2147483647 := by
  unfold cvD
  repeat' split
  all_goals omega
theorem right_step {b : GBlock} {ins : List Int} {now : Int} (h : mayB b ins now = 0) : rightBlk (stepB b ins now) = true ∧ (stepB b ins now).kind = b.kind := by
  obtain ⟨hR, n1, n2, hok⟩ := mayB_ok h
  obtain ⟨q1, q2, q3, q4, q5, q6⟩ := rightBlk_bnd hR
  have hu := rightBlk_use hR
  clear h
  by_cases hk : b.kind = 1 ∨ b.kind = 2 ∨ b.kind = 3
  · have hp : pinsIn b.kind = [1, 5] := by rcases hk with h | h | h <;> rw [h] <;> rfl
    rw [hp] at hok
    obtain ⟨x, pt, rfl, hx, hpt⟩ := ok2 hok
    obtain ⟨p1, p2⟩ := inR_udint hpt
    obtain ⟨w0, g, f, e, q, hb, hT⟩ := right_tm_inv hR hk
    obtain ⟨g', f', e', q', hs, hT'⟩ := tm_step (was := w0) (q := q) hT (onB [x, pt] 0 && !b.w0) (onB [x, pt] 0) p1 p2 n1 n2
    rw [← hb] at hs
    have e1 : stepB b [x, pt] now = { timerB b (onB [x, pt] 0 && !b.w0) (onB [x, pt] 0) now pt with w0 := onB [x, pt] 0 } := if_pos hk
    rw [e1, hs]
    exact ⟨right_tm (was := onB [x, pt] 0) (q := q') hT', rfl⟩
  · rcases kind_cases hR with hk1 | hk1 | hk1 | hk1 | hk1 | hk1 | hk1 | hk1 | hk1 | hk1 | hk1
    · exact absurd (.inl hk1) hk
    · exact absurd (.inr (.inl hk1)) hk
    · exact absurd (.inr (.inr hk1)) hk
    all_goals
      rw [hk1] at hok
      obtain ⟨kind, w0, w1, ran, going, frm, et, cv, q, p⟩ := b
      obtain rfl : kind = _ := hk1
      clear hk
    · obtain ⟨a, c, d, rfl, hd⟩ := ok3 hok
      obtain ⟨d1, d2⟩ := inR_dint hd
      have e : stepB ⟨4, w0, w1, ran, going, frm, et, cv, q, p⟩ [a, c, d] now = { counterB ⟨4, w0, w1, ran, going, frm, et, cv, q, p⟩ (onB [a, c, d] 0 && !w0) [a, c, d] d with w0 := onB [a, c, d] 0 } := rfl
      rw [e]
      have hc := counter_in (b := ⟨4, w0, w1, ran, going, frm, et, cv, q, p⟩) (onB [a, c, d] 0 && !w0) [a, c, d] q5 q6 d1 d2
      exact ⟨right_of ⟨q1, q2, q3, q4, hc.1, hc.2⟩ hu, rfl⟩
    · obtain ⟨a, c, d, rfl, hd⟩ := ok3 hok
      obtain ⟨d1, d2⟩ := inR_dint hd
      have e : stepB ⟨5, w0, w1, ran, going, frm, et, cv, q, p⟩ [a, c, d] now = { counterB ⟨5, w0, w1, ran, going, frm, et, cv, q, p⟩ (onB [a, c, d] 0 && !w0) [a, c, d] d with w0 := onB [a, c, d] 0 } := rfl
      rw [e]
      have hc := counter_in (b := ⟨5, w0, w1, ran, going, frm, et, cv, q, p⟩) (onB [a, c, d] 0 && !w0) [a, c, d] q5 q6 d1 d2
      exact ⟨right_of ⟨q1, q2, q3, q4, hc.1, hc.2⟩ hu, rfl⟩
    · obtain ⟨a, c, d, u, v, rfl, hv⟩ := ok5 hok
      obtain ⟨d1, d2⟩ := inR_dint hv
      have e : stepB ⟨6, w0, w1, ran, going, frm, et, cv, q, p⟩ [a, c, d, u, v] now = { counterB ⟨6, w0, w1, ran, going, frm, et, cv, q, p⟩ (onB [a, c, d, u, v] 0 && !w0) [a, c, d, u, v] v with w0 := onB [a, c, d, u, v] 0 } := rfl
      rw [e]
      have hc := counter_in (b := ⟨6, w0, w1, ran, going, frm, et, cv, q, p⟩) (onB [a, c, d, u, v] 0 && !w0) [a, c, d, u, v] q5 q6 d1 d2
      exact ⟨right_of ⟨q1, q2, q3, q4, hc.1, hc.2⟩ hu, rfl⟩
    · exact ⟨right_of ⟨q1, q2, q3, q4, q5, q6⟩ hu, rfl⟩
    · exact ⟨right_of ⟨q1, q2, q3, q4, q5, q6⟩ hu, rfl⟩
    · exact ⟨right_of ⟨q1, q2, q3, q4, q5, q6⟩ hu, rfl⟩
    · exact ⟨right_of ⟨q1, q2, q3, q4, q5, q6⟩ hu, rfl⟩
    · exact ⟨right_of ⟨q1, q2, q3, q4, (cvD_in q5 q6 _ _ _).1, (cvD_in q5 q6 _ _ _).2⟩ hu, rfl⟩
theorem right_run {b : GBlock} (ins : List Int) (now : Int) (h : rightBlk b = true) : rightBlk (runB b ins now).1 = true ∧ (runB b ins now).1.kind = b.kind := by
  unfold runB
  by_cases hm : mayB b ins now = 0
  · rw [if_pos hm]; exact right_step hm
  · rw [if_neg hm]; exact ⟨h, rfl⟩
theorem run_same {b : GBlock} {ins : List Int} {now : Int} (h : (runB b ins now).2 ≠ 0) : (runB b ins now).1 = b := by
  unfold runB at h ⊢
  by_cases hm : mayB b ins now = 0
  · rw [if_pos hm] at h; exact absurd rfl h
  · rw [if_neg hm]
theorem run_wrong {b : GBlock} (ins : List Int) (now : Int) (h : rightBlk b = false) : runB b ins now = (b, 160) := by
  have hm : mayB b ins now = 160 := by simp [mayB, h]
  unfold runB
  rw [hm]; rfl
theorem inR_truth (x : Bool) : inR 1 (truthI x) = true := by cases x <;> rfl
theorem outs_in {b : GBlock} (h : rightBlk b = true) : okIns (pinsOut b.kind) (outsB b) = true := by
  obtain ⟨q1, q2, q3, q4, q5, q6⟩ := rightBlk_bnd h
  have hcv : inR 4 b.cv = true := by
    have h1 : decide ((rangeOf 4).1 ≤ b.cv) = true := decide_eq_true q5
    have h2 : decide (b.cv ≤ (rangeOf 4).2) = true := decide_eq_true q6
    unfold inR
    rw [h1, h2]; rfl
  have het : inR 5 (min b.et 4294967295) = true := by
    have h1 : decide ((rangeOf 5).1 ≤ min b.et 4294967295) = true := decide_eq_true (show 0 ≤ min b.et 4294967295 by omega)
    have h2 : decide (min b.et 4294967295 ≤ (rangeOf 5).2) = true := decide_eq_true (show min b.et 4294967295 ≤ 4294967295 by omega)
    unfold inR
    rw [h1, h2]; rfl
  have e : outsB b = outsK b := if_pos h
  rw [e]
  have hq := inR_truth b.q
  have hp := inR_truth b.p
  rcases kind_cases h with hk | hk | hk | hk | hk | hk | hk | hk | hk | hk | hk
  all_goals
    unfold outsK
    rw [hk]
    simp [show pinsOut 1 = [1, 5] from rfl, show pinsOut 2 = [1, 5] from rfl, show pinsOut 3 = [1, 5] from rfl, show pinsOut 4 = [1, 4] from rfl, show pinsOut 5 = [1, 4] from rfl, show pinsOut 6 = [1, 1, 4] from rfl, show pinsOut 7 = [1] from rfl, show pinsOut 8 = [1] from rfl, show pinsOut 9 = [1] from rfl, show pinsOut 10 = [1] from rfl, show pinsOut 11 = [4, 1] from rfl, okIns, hq, hp, hcv, het]
end Go.Proofs.Ytiogpainajokkaa

