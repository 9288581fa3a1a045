/- CheckTypes: the walk, sign by sign. Printed by gen_types.py. -/
import Derived.Test.YthiapebodpkamaaTypesP
import Derived.ArgAppend
namespace Go.Proofs.Ythiapebodpkamaa
open Go.RowKit
theorem insInfoT : ∃ i, Try.prog.info? 38 = some i ∧ i.zero = some (.agg #[.int .u8 0, .int .u8 0, .int .i64 0, .int .i64 0]) ∧ i.size = 4 ∧ i.bytes = 24 := by
  have h : (Try.prog.info? 38).map (fun i => (i.zero, i.size, i.bytes)) = some (some (.agg #[.int .u8 0, .int .u8 0, .int .i64 0, .int .i64 0]), 4, 24) := by kernel_rfl
  obtain ⟨i, h1, h2⟩ := Option.map_eq_some_iff.1 h
  simp only [Prod.mk.injEq] at h2
  exact ⟨i, h1, h2.1, h2.2.1, h2.2.2⟩
theorem wf_mk {o t a n : Int} (h1 : 0 ≤ o ∧ o ≤ 255) (h2 : 0 ≤ t ∧ t ≤ 255) (h3 : -9223372036854775808 ≤ a ∧ a ≤ 9223372036854775807) (h4 : -9223372036854775808 ≤ n ∧ n ≤ 9223372036854775807) : (⟨o, t, a, n⟩ : GIns).Wf := ⟨h1, h2, h3, h4⟩
theorem eq_bool {x y : Int} {p : Bool} (h : decide (x = y) = p) : (x == y) = p := by
  rw [← h]
  by_cases e : x = y
  · rw [decide_eq_true e]; exact beq_iff_eq.2 e
  · rw [decide_eq_false e]; exact beq_eq_false_iff_ne.2 e
set_option maxHeartbeats 4000000 in
set_option maxRecDepth 100000 in
theorem types_4 (a b t s x y z : Int) (ha : 0 ≤ a ∧ a ≤ 255) (hb : 0 ≤ b ∧ b ≤ 255) (ht : 0 ≤ t ∧ t ≤ 255) (hs : 0 ≤ s ∧ s ≤ 255) (hx : 1 + a % 5 = x) (hy : 1 + b % 5 = y) (hz : 1 + t % 5 = z) (h11 : s % 11 = 0) (w : World) :
    Calls Try.prog 8 #[.int .u8 a, .int .u8 b, .int .u8 t, .int .u8 s] w fun e w' => e = .returned (.bool true) ∧ Below w.heap.size w w' := by
  have bx : 1 ≤ x ∧ x ≤ 5 := by omega
  have bY : 1 ≤ y ∧ y ≤ 5 := by omega
  have bz : 1 ≤ z ∧ z ≤ 5 := by omega
  have one := types_one bx bY bz (o := 4) (by decide)
  obtain ⟨L, hL⟩ : ∃ L : List GIns, L = [⟨1, x, 0, 0⟩, ⟨1, y, 0, 0⟩, ⟨4, z, 0, 0⟩, ⟨17, 0, 0, 0⟩, ⟨22, 0, 0, 0⟩] := ⟨_, rfl⟩
  have e1 : typesL x y z 4 = L := by rw [hL]; rfl
  unfold typesOne typesOk at one
  rw [e1, if_neg (show ¬((4 : Int) = 15) by decide)] at one
  have WF : Fact (pg L).Wf := ⟨pg_wf fun i hi => by
    rw [hL] at hi
    simp only [List.mem_cons, List.not_mem_nil, or_false] at hi
    rcases hi with rfl | rfl | rfl | rfl | rfl <;> exact wf_mk (by omega) (by omega) (by omega) (by omega)⟩
  have RD0 : Fact (Rd encIns 4 ((w.alloc (.cells #[.int .u8 4, .int .u8 5, .int .u8 6, .int .u8 7, .int .u8 8, .int .u8 9, .int .u8 10, .int .u8 11, .int .u8 13, .int .u8 14, .int .u8 15] 57)).alloc (.cells #[.int .u8 1, .int .u8 x, .int .i64 0, .int .i64 0, .int .u8 1, .int .u8 y, .int .i64 0, .int .i64 0, .int .u8 4, .int .u8 z, .int .i64 0, .int .i64 0, .int .u8 17, .int .u8 0, .int .i64 0, .int .i64 0, .int .u8 22, .int .u8 0, .int .i64 0, .int .i64 0] 38)) (.slice (some ⟨w.heap.size + 1, 0, none⟩) 5 5) L) := by
    have := rd_ins (w := w.alloc (.cells #[.int .u8 4, .int .u8 5, .int .u8 6, .int .u8 7, .int .u8 8, .int .u8 9, .int .u8 10, .int .u8 11, .int .u8 13, .int .u8 14, .int .u8 15] 57)) (m := w.heap.size + 1) (by simp) L 38 (by rw [hL]; exact (by decide : 5 ≤ 9223372036854775807))
    rw [hL] at this ⊢
    exact ⟨this⟩
  have ONE := Fact.mk one
  clear one e1
  obtain ⟨p, hp⟩ : ∃ p, decide (x = z) = p := ⟨_, rfl⟩
  obtain ⟨q, hq⟩ : ∃ q, decide (y = z) = q := ⟨_, rfl⟩
  obtain ⟨r, hr⟩ : ∃ r, checkB (pg L) 9 = r := ⟨_, rfl⟩
  have HR := Fact.mk hr
  rw [hr, hp, hq] at ONE
  have ep := eq_bool hp
  have eq := eq_bool hq
  obtain ⟨z1, hz1⟩ : ∃ z1, decide (z = 1) = z1 := ⟨_, rfl⟩
  have ez := eq_bool hz1
  have HZ := Fact.mk hz1
  have HL := Fact.mk hL
  clear hp hq hr hz1 bx bY bz
  go_enter Try.func8, Try.ntmps8
  go_wp2_with fail
  refine (prog_any _ _ _ _).mono ?_
  rintro e V0 ⟨rfl, hb0⟩
  unfold vPg
  have RD := Fact.mk (pg_rd (RD0.out.below hb0))
  have BV : Fact (Below w.heap.size w V0) := ⟨(two_blocks w _ _).1.trans (hb0.mono (two_blocks w _ _).1.size)⟩
  clear hb0 RD0 hL
  cases p <;> cases q <;> cases z1
  all_goals
    have hr2 := ONE.out
    unfold typesBad at hr2
    rw [HZ.out] at hr2
    clear HZ ONE
    simp at hr2
    first | subst hr2 | (have er : (r == 0) = false := beq_eq_false_iff_ne.2 hr2; clear hr2)
    go_wp2_with fail
    refine (check_any (pg L) WF.out (by rw [HL.out]; simp [pg]) _ _ _ 9 _ (RD.out.below (one_block V0 _).1)).mono ?_
    rintro e W2 ⟨rfl, hb2⟩
    rw [HR.out]
    have B2 := Fact.mk ((BV.out.alloc BV.out.size _).trans (hb2.mono (Nat.le_trans BV.out.size (by simp))))
    clear hb2
    go_wp2_with fail
    refine (awk14_any _).mono ?_
    rintro e W9 ⟨rfl, hb9⟩
    have B9 := Fact.mk (B2.out.trans (hb9.mono B2.out.size))
    clear hb9
    go_wp2
    go_ret
    exact ⟨rfl, B9.out⟩
set_option maxHeartbeats 4000000 in
set_option maxRecDepth 100000 in
theorem types_5 (a b t s x y z : Int) (ha : 0 ≤ a ∧ a ≤ 255) (hb : 0 ≤ b ∧ b ≤ 255) (ht : 0 ≤ t ∧ t ≤ 255) (hs : 0 ≤ s ∧ s ≤ 255) (hx : 1 + a % 5 = x) (hy : 1 + b % 5 = y) (hz : 1 + t % 5 = z) (h11 : s % 11 = 1) (w : World) :
    Calls Try.prog 8 #[.int .u8 a, .int .u8 b, .int .u8 t, .int .u8 s] w fun e w' => e = .returned (.bool true) ∧ Below w.heap.size w w' := by
  have bx : 1 ≤ x ∧ x ≤ 5 := by omega
  have bY : 1 ≤ y ∧ y ≤ 5 := by omega
  have bz : 1 ≤ z ∧ z ≤ 5 := by omega
  have one := types_one bx bY bz (o := 5) (by decide)
  obtain ⟨L, hL⟩ : ∃ L : List GIns, L = [⟨1, x, 0, 0⟩, ⟨1, y, 0, 0⟩, ⟨5, z, 0, 0⟩, ⟨17, 0, 0, 0⟩, ⟨22, 0, 0, 0⟩] := ⟨_, rfl⟩
  have e1 : typesL x y z 5 = L := by rw [hL]; rfl
  unfold typesOne typesOk at one
  rw [e1, if_neg (show ¬((5 : Int) = 15) by decide)] at one
  have WF : Fact (pg L).Wf := ⟨pg_wf fun i hi => by
    rw [hL] at hi
    simp only [List.mem_cons, List.not_mem_nil, or_false] at hi
    rcases hi with rfl | rfl | rfl | rfl | rfl <;> exact wf_mk (by omega) (by omega) (by omega) (by omega)⟩
  have RD0 : Fact (Rd encIns 4 ((w.alloc (.cells #[.int .u8 4, .int .u8 5, .int .u8 6, .int .u8 7, .int .u8 8, .int .u8 9, .int .u8 10, .int .u8 11, .int .u8 13, .int .u8 14, .int .u8 15] 57)).alloc (.cells #[.int .u8 1, .int .u8 x, .int .i64 0, .int .i64 0, .int .u8 1, .int .u8 y, .int .i64 0, .int .i64 0, .int .u8 5, .int .u8 z, .int .i64 0, .int .i64 0, .int .u8 17, .int .u8 0, .int .i64 0, .int .i64 0, .int .u8 22, .int .u8 0, .int .i64 0, .int .i64 0] 38)) (.slice (some ⟨w.heap.size + 1, 0, none⟩) 5 5) L) := by
    have := rd_ins (w := w.alloc (.cells #[.int .u8 4, .int .u8 5, .int .u8 6, .int .u8 7, .int .u8 8, .int .u8 9, .int .u8 10, .int .u8 11, .int .u8 13, .int .u8 14, .int .u8 15] 57)) (m := w.heap.size + 1) (by simp) L 38 (by rw [hL]; exact (by decide : 5 ≤ 9223372036854775807))
    rw [hL] at this ⊢
    exact ⟨this⟩
  have ONE := Fact.mk one
  clear one e1
  obtain ⟨p, hp⟩ : ∃ p, decide (x = z) = p := ⟨_, rfl⟩
  obtain ⟨q, hq⟩ : ∃ q, decide (y = z) = q := ⟨_, rfl⟩
  obtain ⟨r, hr⟩ : ∃ r, checkB (pg L) 9 = r := ⟨_, rfl⟩
  have HR := Fact.mk hr
  rw [hr, hp, hq] at ONE
  have ep := eq_bool hp
  have eq := eq_bool hq
  obtain ⟨z1, hz1⟩ : ∃ z1, decide (z = 1) = z1 := ⟨_, rfl⟩
  have ez := eq_bool hz1
  have HZ := Fact.mk hz1
  have HL := Fact.mk hL
  clear hp hq hr hz1 bx bY bz
  go_enter Try.func8, Try.ntmps8
  go_wp2_with fail
  refine (prog_any _ _ _ _).mono ?_
  rintro e V0 ⟨rfl, hb0⟩
  unfold vPg
  have RD := Fact.mk (pg_rd (RD0.out.below hb0))
  have BV : Fact (Below w.heap.size w V0) := ⟨(two_blocks w _ _).1.trans (hb0.mono (two_blocks w _ _).1.size)⟩
  clear hb0 RD0 hL
  cases p <;> cases q <;> cases z1
  all_goals
    have hr2 := ONE.out
    unfold typesBad at hr2
    rw [HZ.out] at hr2
    clear HZ ONE
    simp at hr2
    first | subst hr2 | (have er : (r == 0) = false := beq_eq_false_iff_ne.2 hr2; clear hr2)
    go_wp2_with fail
    refine (check_any (pg L) WF.out (by rw [HL.out]; simp [pg]) _ _ _ 9 _ (RD.out.below (one_block V0 _).1)).mono ?_
    rintro e W2 ⟨rfl, hb2⟩
    rw [HR.out]
    have B2 := Fact.mk ((BV.out.alloc BV.out.size _).trans (hb2.mono (Nat.le_trans BV.out.size (by simp))))
    clear hb2
    go_wp2_with fail
    refine (awk14_any _).mono ?_
    rintro e W9 ⟨rfl, hb9⟩
    have B9 := Fact.mk (B2.out.trans (hb9.mono B2.out.size))
    clear hb9
    go_wp2
    go_ret
    exact ⟨rfl, B9.out⟩
set_option maxHeartbeats 4000000 in
set_option maxRecDepth 100000 in
theorem types_6 (a b t s x y z : Int) (ha : 0 ≤ a ∧ a ≤ 255) (hb : 0 ≤ b ∧ b ≤ 255) (ht : 0 ≤ t ∧ t ≤ 255) (hs : 0 ≤ s ∧ s ≤ 255) (hx : 1 + a % 5 = x) (hy : 1 + b % 5 = y) (hz : 1 + t % 5 = z) (h11 : s % 11 = 2) (w : World) :
    Calls Try.prog 8 #[.int .u8 a, .int .u8 b, .int .u8 t, .int .u8 s] w fun e w' => e = .returned (.bool true) ∧ Below w.heap.size w w' := by
  have bx : 1 ≤ x ∧ x ≤ 5 := by omega
  have bY : 1 ≤ y ∧ y ≤ 5 := by omega
  have bz : 1 ≤ z ∧ z ≤ 5 := by omega
  have one := types_one bx bY bz (o := 6) (by decide)
  obtain ⟨L, hL⟩ : ∃ L : List GIns, L = [⟨1, x, 0, 0⟩, ⟨1, y, 0, 0⟩, ⟨6, z, 0, 0⟩, ⟨17, 0, 0, 0⟩, ⟨22, 0, 0, 0⟩] := ⟨_, rfl⟩
  have e1 : typesL x y z 6 = L := by rw [hL]; rfl
  unfold typesOne typesOk at one
  rw [e1, if_neg (show ¬((6 : Int) = 15) by decide)] at one
  have WF : Fact (pg L).Wf := ⟨pg_wf fun i hi => by
    rw [hL] at hi
    simp only [List.mem_cons, List.not_mem_nil, or_false] at hi
    rcases hi with rfl | rfl | rfl | rfl | rfl <;> exact wf_mk (by omega) (by omega) (by omega) (by omega)⟩
  have RD0 : Fact (Rd encIns 4 ((w.alloc (.cells #[.int .u8 4, .int .u8 5, .int .u8 6, .int .u8 7, .int .u8 8, .int .u8 9, .int .u8 10, .int .u8 11, .int .u8 13, .int .u8 14, .int .u8 15] 57)).alloc (.cells #[.int .u8 1, .int .u8 x, .int .i64 0, .int .i64 0, .int .u8 1, .int .u8 y, .int .i64 0, .int .i64 0, .int .u8 6, .int .u8 z, .int .i64 0, .int .i64 0, .int .u8 17, .int .u8 0, .int .i64 0, .int .i64 0, .int .u8 22, .int .u8 0, .int .i64 0, .int .i64 0] 38)) (.slice (some ⟨w.heap.size + 1, 0, none⟩) 5 5) L) := by
    have := rd_ins (w := w.alloc (.cells #[.int .u8 4, .int .u8 5, .int .u8 6, .int .u8 7, .int .u8 8, .int .u8 9, .int .u8 10, .int .u8 11, .int .u8 13, .int .u8 14, .int .u8 15] 57)) (m := w.heap.size + 1) (by simp) L 38 (by rw [hL]; exact (by decide : 5 ≤ 9223372036854775807))
    rw [hL] at this ⊢
    exact ⟨this⟩
  have ONE := Fact.mk one
  clear one e1
  obtain ⟨p, hp⟩ : ∃ p, decide (x = z) = p := ⟨_, rfl⟩
  obtain ⟨q, hq⟩ : ∃ q, decide (y = z) = q := ⟨_, rfl⟩
  obtain ⟨r, hr⟩ : ∃ r, checkB (pg L) 9 = r := ⟨_, rfl⟩
  have HR := Fact.mk hr
  rw [hr, hp, hq] at ONE
  have ep := eq_bool hp
  have eq := eq_bool hq
  obtain ⟨z1, hz1⟩ : ∃ z1, decide (z = 1) = z1 := ⟨_, rfl⟩
  have ez := eq_bool hz1
  have HZ := Fact.mk hz1
  have HL := Fact.mk hL
  clear hp hq hr hz1 bx bY bz
  go_enter Try.func8, Try.ntmps8
  go_wp2_with fail
  refine (prog_any _ _ _ _).mono ?_
  rintro e V0 ⟨rfl, hb0⟩
  unfold vPg
  have RD := Fact.mk (pg_rd (RD0.out.below hb0))
  have BV : Fact (Below w.heap.size w V0) := ⟨(two_blocks w _ _).1.trans (hb0.mono (two_blocks w _ _).1.size)⟩
  clear hb0 RD0 hL
  cases p <;> cases q <;> cases z1
  all_goals
    have hr2 := ONE.out
    unfold typesBad at hr2
    rw [HZ.out] at hr2
    clear HZ ONE
    simp at hr2
    first | subst hr2 | (have er : (r == 0) = false := beq_eq_false_iff_ne.2 hr2; clear hr2)
    go_wp2_with fail
    refine (check_any (pg L) WF.out (by rw [HL.out]; simp [pg]) _ _ _ 9 _ (RD.out.below (one_block V0 _).1)).mono ?_
    rintro e W2 ⟨rfl, hb2⟩
    rw [HR.out]
    have B2 := Fact.mk ((BV.out.alloc BV.out.size _).trans (hb2.mono (Nat.le_trans BV.out.size (by simp))))
    clear hb2
    go_wp2_with fail
    refine (awk14_any _).mono ?_
    rintro e W9 ⟨rfl, hb9⟩
    have B9 := Fact.mk (B2.out.trans (hb9.mono B2.out.size))
    clear hb9
    go_wp2
    go_ret
    exact ⟨rfl, B9.out⟩
set_option maxHeartbeats 4000000 in
set_option maxRecDepth 100000 in
theorem types_7 (a b t s x y z : Int) (ha : 0 ≤ a ∧ a ≤ 255) (hb : 0 ≤ b ∧ b ≤ 255) (ht : 0 ≤ t ∧ t ≤ 255) (hs : 0 ≤ s ∧ s ≤ 255) (hx : 1 + a % 5 = x) (hy : 1 + b % 5 = y) (hz : 1 + t % 5 = z) (h11 : s % 11 = 3) (w : World) :
    Calls Try.prog 8 #[.int .u8 a, .int .u8 b, .int .u8 t, .int .u8 s] w fun e w' => e = .returned (.bool true) ∧ Below w.heap.size w w' := by
  have bx : 1 ≤ x ∧ x ≤ 5 := by omega
  have bY : 1 ≤ y ∧ y ≤ 5 := by omega
  have bz : 1 ≤ z ∧ z ≤ 5 := by omega
  have one := types_one bx bY bz (o := 7) (by decide)
  obtain ⟨L, hL⟩ : ∃ L : List GIns, L = [⟨1, x, 0, 0⟩, ⟨1, y, 0, 0⟩, ⟨7, z, 0, 0⟩, ⟨17, 0, 0, 0⟩, ⟨22, 0, 0, 0⟩] := ⟨_, rfl⟩
  have e1 : typesL x y z 7 = L := by rw [hL]; rfl
  unfold typesOne typesOk at one
  rw [e1, if_neg (show ¬((7 : Int) = 15) by decide)] at one
  have WF : Fact (pg L).Wf := ⟨pg_wf fun i hi => by
    rw [hL] at hi
    simp only [List.mem_cons, List.not_mem_nil, or_false] at hi
    rcases hi with rfl | rfl | rfl | rfl | rfl <;> exact wf_mk (by omega) (by omega) (by omega) (by omega)⟩
  have RD0 : Fact (Rd encIns 4 ((w.alloc (.cells #[.int .u8 4, .int .u8 5, .int .u8 6, .int .u8 7, .int .u8 8, .int .u8 9, .int .u8 10, .int .u8 11, .int .u8 13, .int .u8 14, .int .u8 15] 57)).alloc (.cells #[.int .u8 1, .int .u8 x, .int .i64 0, .int .i64 0, .int .u8 1, .int .u8 y, .int .i64 0, .int .i64 0, .int .u8 7, .int .u8 z, .int .i64 0, .int .i64 0, .int .u8 17, .int .u8 0, .int .i64 0, .int .i64 0, .int .u8 22, .int .u8 0, .int .i64 0, .int .i64 0] 38)) (.slice (some ⟨w.heap.size + 1, 0, none⟩) 5 5) L) := by
    have := rd_ins (w := w.alloc (.cells #[.int .u8 4, .int .u8 5, .int .u8 6, .int .u8 7, .int .u8 8, .int .u8 9, .int .u8 10, .int .u8 11, .int .u8 13, .int .u8 14, .int .u8 15] 57)) (m := w.heap.size + 1) (by simp) L 38 (by rw [hL]; exact (by decide : 5 ≤ 9223372036854775807))
    rw [hL] at this ⊢
    exact ⟨this⟩
  have ONE := Fact.mk one
  clear one e1
  obtain ⟨p, hp⟩ : ∃ p, decide (x = z) = p := ⟨_, rfl⟩
  obtain ⟨q, hq⟩ : ∃ q, decide (y = z) = q := ⟨_, rfl⟩
  obtain ⟨r, hr⟩ : ∃ r, checkB (pg L) 9 = r := ⟨_, rfl⟩
  have HR := Fact.mk hr
  rw [hr, hp, hq] at ONE
  have ep := eq_bool hp
  have eq := eq_bool hq
  obtain ⟨z1, hz1⟩ : ∃ z1, decide (z = 1) = z1 := ⟨_, rfl⟩
  have ez := eq_bool hz1
  have HZ := Fact.mk hz1
  have HL := Fact.mk hL
  clear hp hq hr hz1 bx bY bz
  go_enter Try.func8, Try.ntmps8
  go_wp2_with fail
  refine (prog_any _ _ _ _).mono ?_
  rintro e V0 ⟨rfl, hb0⟩
  unfold vPg
  have RD := Fact.mk (pg_rd (RD0.out.below hb0))
  have BV : Fact (Below w.heap.size w V0) := ⟨(two_blocks w _ _).1.trans (hb0.mono (two_blocks w _ _).1.size)⟩
  clear hb0 RD0 hL
  cases p <;> cases q <;> cases z1
  all_goals
    have hr2 := ONE.out
    unfold typesBad at hr2
    rw [HZ.out] at hr2
    clear HZ ONE
    simp at hr2
    first | subst hr2 | (have er : (r == 0) = false := beq_eq_false_iff_ne.2 hr2; clear hr2)
    go_wp2_with fail
    refine (check_any (pg L) WF.out (by rw [HL.out]; simp [pg]) _ _ _ 9 _ (RD.out.below (one_block V0 _).1)).mono ?_
    rintro e W2 ⟨rfl, hb2⟩
    rw [HR.out]
    have B2 := Fact.mk ((BV.out.alloc BV.out.size _).trans (hb2.mono (Nat.le_trans BV.out.size (by simp))))
    clear hb2
    go_wp2_with fail
    refine (awk14_any _).mono ?_
    rintro e W9 ⟨rfl, hb9⟩
    have B9 := Fact.mk (B2.out.trans (hb9.mono B2.out.size))
    clear hb9
    go_wp2
    go_ret
    exact ⟨rfl, B9.out⟩
set_option maxHeartbeats 4000000 in
set_option maxRecDepth 100000 in
theorem types_8 (a b t s x y z : Int) (ha : 0 ≤ a ∧ a ≤ 255) (hb : 0 ≤ b ∧ b ≤ 255) (ht : 0 ≤ t ∧ t ≤ 255) (hs : 0 ≤ s ∧ s ≤ 255) (hx : 1 + a % 5 = x) (hy : 1 + b % 5 = y) (hz : 1 + t % 5 = z) (h11 : s % 11 = 4) (w : World) :
    Calls Try.prog 8 #[.int .u8 a, .int .u8 b, .int .u8 t, .int .u8 s] w fun e w' => e = .returned (.bool true) ∧ Below w.heap.size w w' := by
  have bx : 1 ≤ x ∧ x ≤ 5 := by omega
  have bY : 1 ≤ y ∧ y ≤ 5 := by omega
  have bz : 1 ≤ z ∧ z ≤ 5 := by omega
  have one := types_one bx bY bz (o := 8) (by decide)
  obtain ⟨L, hL⟩ : ∃ L : List GIns, L = [⟨1, x, 0, 0⟩, ⟨1, y, 0, 0⟩, ⟨8, z, 0, 0⟩, ⟨17, 0, 0, 0⟩, ⟨22, 0, 0, 0⟩] := ⟨_, rfl⟩
  have e1 : typesL x y z 8 = L := by rw [hL]; rfl
  unfold typesOne typesOk at one
  rw [e1, if_neg (show ¬((8 : Int) = 15) by decide)] at one
  have WF : Fact (pg L).Wf := ⟨pg_wf fun i hi => by
    rw [hL] at hi
    simp only [List.mem_cons, List.not_mem_nil, or_false] at hi
    rcases hi with rfl | rfl | rfl | rfl | rfl <;> exact wf_mk (by omega) (by omega) (by omega) (by omega)⟩
  have RD0 : Fact (Rd encIns 4 ((w.alloc (.cells #[.int .u8 4, .int .u8 5, .int .u8 6, .int .u8 7, .int .u8 8, .int .u8 9, .int .u8 10, .int .u8 11, .int .u8 13, .int .u8 14, .int .u8 15] 57)).alloc (.cells #[.int .u8 1, .int .u8 x, .int .i64 0, .int .i64 0, .int .u8 1, .int .u8 y, .int .i64 0, .int .i64 0, .int .u8 8, .int .u8 z, .int .i64 0, .int .i64 0, .int .u8 17, .int .u8 0, .int .i64 0, .int .i64 0, .int .u8 22, .int .u8 0, .int .i64 0, .int .i64 0] 38)) (.slice (some ⟨w.heap.size + 1, 0, none⟩) 5 5) L) := by
    have := rd_ins (w := w.alloc (.cells #[.int .u8 4, .int .u8 5, .int .u8 6, .int .u8 7, .int .u8 8, .int .u8 9, .int .u8 10, .int .u8 11, .int .u8 13, .int .u8 14, .int .u8 15] 57)) (m := w.heap.size + 1) (by simp) L 38 (by rw [hL]; exact (by decide : 5 ≤ 9223372036854775807))
    rw [hL] at this ⊢
    exact ⟨this⟩
  have ONE := Fact.mk one
  clear one e1
  obtain ⟨p, hp⟩ : ∃ p, decide (x = z) = p := ⟨_, rfl⟩
  obtain ⟨q, hq⟩ : ∃ q, decide (y = z) = q := ⟨_, rfl⟩
  obtain ⟨r, hr⟩ : ∃ r, checkB (pg L) 9 = r := ⟨_, rfl⟩
  have HR := Fact.mk hr
  rw [hr, hp, hq] at ONE
  have ep := eq_bool hp
  have eq := eq_bool hq
  obtain ⟨z1, hz1⟩ : ∃ z1, decide (z = 1) = z1 := ⟨_, rfl⟩
  have ez := eq_bool hz1
  have HZ := Fact.mk hz1
  have HL := Fact.mk hL
  clear hp hq hr hz1 bx bY bz
  go_enter Try.func8, Try.ntmps8
  go_wp2_with fail
  refine (prog_any _ _ _ _).mono ?_
  rintro e V0 ⟨rfl, hb0⟩
  unfold vPg
  have RD := Fact.mk (pg_rd (RD0.out.below hb0))
  have BV : Fact (Below w.heap.size w V0) := ⟨(two_blocks w _ _).1.trans (hb0.mono (two_blocks w _ _).1.size)⟩
  clear hb0 RD0 hL
  cases p <;> cases q <;> cases z1
  all_goals
    have hr2 := ONE.out
    unfold typesBad at hr2
    rw [HZ.out] at hr2
    clear HZ ONE
    simp at hr2
    first | subst hr2 | (have er : (r == 0) = false := beq_eq_false_iff_ne.2 hr2; clear hr2)
    go_wp2_with fail
    refine (check_any (pg L) WF.out (by rw [HL.out]; simp [pg]) _ _ _ 9 _ (RD.out.below (one_block V0 _).1)).mono ?_
    rintro e W2 ⟨rfl, hb2⟩
    rw [HR.out]
    have B2 := Fact.mk ((BV.out.alloc BV.out.size _).trans (hb2.mono (Nat.le_trans BV.out.size (by simp))))
    clear hb2
    go_wp2_with fail
    refine (awk14_any _).mono ?_
    rintro e W9 ⟨rfl, hb9⟩
    have B9 := Fact.mk (B2.out.trans (hb9.mono B2.out.size))
    clear hb9
    go_wp2
    go_ret
    exact ⟨rfl, B9.out⟩
set_option maxHeartbeats 4000000 in
set_option maxRecDepth 100000 in
theorem types_9 (a b t s x y z : Int) (ha : 0 ≤ a ∧ a ≤ 255) (hb : 0 ≤ b ∧ b ≤ 255) (ht : 0 ≤ t ∧ t ≤ 255) (hs : 0 ≤ s ∧ s ≤ 255) (hx : 1 + a % 5 = x) (hy : 1 + b % 5 = y) (hz : 1 + t % 5 = z) (h11 : s % 11 = 5) (w : World) :
    Calls Try.prog 8 #[.int .u8 a, .int .u8 b, .int .u8 t, .int .u8 s] w fun e w' => e = .returned (.bool true) ∧ Below w.heap.size w w' := by
  have bx : 1 ≤ x ∧ x ≤ 5 := by omega
  have bY : 1 ≤ y ∧ y ≤ 5 := by omega
  have bz : 1 ≤ z ∧ z ≤ 5 := by omega
  have one := types_one bx bY bz (o := 9) (by decide)
  obtain ⟨L, hL⟩ : ∃ L : List GIns, L = [⟨1, x, 0, 0⟩, ⟨1, y, 0, 0⟩, ⟨9, z, 0, 0⟩, ⟨17, 0, 0, 0⟩, ⟨22, 0, 0, 0⟩] := ⟨_, rfl⟩
  have e1 : typesL x y z 9 = L := by rw [hL]; rfl
  unfold typesOne typesOk at one
  rw [e1, if_neg (show ¬((9 : Int) = 15) by decide)] at one
  have WF : Fact (pg L).Wf := ⟨pg_wf fun i hi => by
    rw [hL] at hi
    simp only [List.mem_cons, List.not_mem_nil, or_false] at hi
    rcases hi with rfl | rfl | rfl | rfl | rfl <;> exact wf_mk (by omega) (by omega) (by omega) (by omega)⟩
  have RD0 : Fact (Rd encIns 4 ((w.alloc (.cells #[.int .u8 4, .int .u8 5, .int .u8 6, .int .u8 7, .int .u8 8, .int .u8 9, .int .u8 10, .int .u8 11, .int .u8 13, .int .u8 14, .int .u8 15] 57)).alloc (.cells #[.int .u8 1, .int .u8 x, .int .i64 0, .int .i64 0, .int .u8 1, .int .u8 y, .int .i64 0, .int .i64 0, .int .u8 9, .int .u8 z, .int .i64 0, .int .i64 0, .int .u8 17, .int .u8 0, .int .i64 0, .int .i64 0, .int .u8 22, .int .u8 0, .int .i64 0, .int .i64 0] 38)) (.slice (some ⟨w.heap.size + 1, 0, none⟩) 5 5) L) := by
    have := rd_ins (w := w.alloc (.cells #[.int .u8 4, .int .u8 5, .int .u8 6, .int .u8 7, .int .u8 8, .int .u8 9, .int .u8 10, .int .u8 11, .int .u8 13, .int .u8 14, .int .u8 15] 57)) (m := w.heap.size + 1) (by simp) L 38 (by rw [hL]; exact (by decide : 5 ≤ 9223372036854775807))
    rw [hL] at this ⊢
    exact ⟨this⟩
  have ONE := Fact.mk one
  clear one e1
  obtain ⟨p, hp⟩ : ∃ p, decide (x = z) = p := ⟨_, rfl⟩
  obtain ⟨q, hq⟩ : ∃ q, decide (y = z) = q := ⟨_, rfl⟩
  obtain ⟨r, hr⟩ : ∃ r, checkB (pg L) 9 = r := ⟨_, rfl⟩
  have HR := Fact.mk hr
  rw [hr, hp, hq] at ONE
  have ep := eq_bool hp
  have eq := eq_bool hq
  obtain ⟨z1, hz1⟩ : ∃ z1, decide (z = 1) = z1 := ⟨_, rfl⟩
  have ez := eq_bool hz1
  have HZ := Fact.mk hz1
  have HL := Fact.mk hL
  clear hp hq hr hz1 bx bY bz
  go_enter Try.func8, Try.ntmps8
  go_wp2_with fail
  refine (prog_any _ _ _ _).mono ?_
  rintro e V0 ⟨rfl, hb0⟩
  unfold vPg
  have RD := Fact.mk (pg_rd (RD0.out.below hb0))
  have BV : Fact (Below w.heap.size w V0) := ⟨(two_blocks w _ _).1.trans (hb0.mono (two_blocks w _ _).1.size)⟩
  clear hb0 RD0 hL
  cases p <;> cases q <;> cases z1
  all_goals
    have hr2 := ONE.out
    unfold typesBad at hr2
    rw [HZ.out] at hr2
    clear HZ ONE
    simp at hr2
    first | subst hr2 | (have er : (r == 0) = false := beq_eq_false_iff_ne.2 hr2; clear hr2)
    go_wp2_with fail
    refine (check_any (pg L) WF.out (by rw [HL.out]; simp [pg]) _ _ _ 9 _ (RD.out.below (one_block V0 _).1)).mono ?_
    rintro e W2 ⟨rfl, hb2⟩
    rw [HR.out]
    have B2 := Fact.mk ((BV.out.alloc BV.out.size _).trans (hb2.mono (Nat.le_trans BV.out.size (by simp))))
    clear hb2
    go_wp2_with fail
    refine (awk14_any _).mono ?_
    rintro e W9 ⟨rfl, hb9⟩
    have B9 := Fact.mk (B2.out.trans (hb9.mono B2.out.size))
    clear hb9
    go_wp2
    go_ret
    exact ⟨rfl, B9.out⟩
set_option maxHeartbeats 4000000 in
set_option maxRecDepth 100000 in
theorem types_10 (a b t s x y z : Int) (ha : 0 ≤ a ∧ a ≤ 255) (hb : 0 ≤ b ∧ b ≤ 255) (ht : 0 ≤ t ∧ t ≤ 255) (hs : 0 ≤ s ∧ s ≤ 255) (hx : 1 + a % 5 = x) (hy : 1 + b % 5 = y) (hz : 1 + t % 5 = z) (h11 : s % 11 = 6) (w : World) :
    Calls Try.prog 8 #[.int .u8 a, .int .u8 b, .int .u8 t, .int .u8 s] w fun e w' => e = .returned (.bool true) ∧ Below w.heap.size w w' := by
  have bx : 1 ≤ x ∧ x ≤ 5 := by omega
  have bY : 1 ≤ y ∧ y ≤ 5 := by omega
  have bz : 1 ≤ z ∧ z ≤ 5 := by omega
  have one := types_one bx bY bz (o := 10) (by decide)
  obtain ⟨L, hL⟩ : ∃ L : List GIns, L = [⟨1, x, 0, 0⟩, ⟨1, y, 0, 0⟩, ⟨10, z, 0, 0⟩, ⟨17, 0, 0, 0⟩, ⟨22, 0, 0, 0⟩] := ⟨_, rfl⟩
  have e1 : typesL x y z 10 = L := by rw [hL]; rfl
  unfold typesOne typesOk at one
  rw [e1, if_neg (show ¬((10 : Int) = 15) by decide)] at one
  have WF : Fact (pg L).Wf := ⟨pg_wf fun i hi => by
    rw [hL] at hi
    simp only [List.mem_cons, List.not_mem_nil, or_false] at hi
    rcases hi with rfl | rfl | rfl | rfl | rfl <;> exact wf_mk (by omega) (by omega) (by omega) (by omega)⟩
  have RD0 : Fact (Rd encIns 4 ((w.alloc (.cells #[.int .u8 4, .int .u8 5, .int .u8 6, .int .u8 7, .int .u8 8, .int .u8 9, .int .u8 10, .int .u8 11, .int .u8 13, .int .u8 14, .int .u8 15] 57)).alloc (.cells #[.int .u8 1, .int .u8 x, .int .i64 0, .int .i64 0, .int .u8 1, .int .u8 y, .int .i64 0, .int .i64 0, .int .u8 10, .int .u8 z, .int .i64 0, .int .i64 0, .int .u8 17, .int .u8 0, .int .i64 0, .int .i64 0, .int .u8 22, .int .u8 0, .int .i64 0, .int .i64 0] 38)) (.slice (some ⟨w.heap.size + 1, 0, none⟩) 5 5) L) := by
    have := rd_ins (w := w.alloc (.cells #[.int .u8 4, .int .u8 5, .int .u8 6, .int .u8 7, .int .u8 8, .int .u8 9, .int .u8 10, .int .u8 11, .int .u8 13, .int .u8 14, .int .u8 15] 57)) (m := w.heap.size + 1) (by simp) L 38 (by rw [hL]; exact (by decide : 5 ≤ 9223372036854775807))
    rw [hL] at this ⊢
    exact ⟨this⟩
  have ONE := Fact.mk one
  clear one e1
  obtain ⟨p, hp⟩ : ∃ p, decide (x = z) = p := ⟨_, rfl⟩
  obtain ⟨q, hq⟩ : ∃ q, decide (y = z) = q := ⟨_, rfl⟩
  obtain ⟨r, hr⟩ : ∃ r, checkB (pg L) 9 = r := ⟨_, rfl⟩
  have HR := Fact.mk hr
  rw [hr, hp, hq] at ONE
  have ep := eq_bool hp
  have eq := eq_bool hq
  obtain ⟨z1, hz1⟩ : ∃ z1, decide (z = 1) = z1 := ⟨_, rfl⟩
  have ez := eq_bool hz1
  have HZ := Fact.mk hz1
  have HL := Fact.mk hL
  clear hp hq hr hz1 bx bY bz
  go_enter Try.func8, Try.ntmps8
  go_wp2_with fail
  refine (prog_any _ _ _ _).mono ?_
  rintro e V0 ⟨rfl, hb0⟩
  unfold vPg
  have RD := Fact.mk (pg_rd (RD0.out.below hb0))
  have BV : Fact (Below w.heap.size w V0) := ⟨(two_blocks w _ _).1.trans (hb0.mono (two_blocks w _ _).1.size)⟩
  clear hb0 RD0 hL
  cases p <;> cases q <;> cases z1
  all_goals
    have hr2 := ONE.out
    unfold typesBad at hr2
    rw [HZ.out] at hr2
    clear HZ ONE
    simp at hr2
    first | subst hr2 | (have er : (r == 0) = false := beq_eq_false_iff_ne.2 hr2; clear hr2)
    go_wp2_with fail
    refine (check_any (pg L) WF.out (by rw [HL.out]; simp [pg]) _ _ _ 9 _ (RD.out.below (one_block V0 _).1)).mono ?_
    rintro e W2 ⟨rfl, hb2⟩
    rw [HR.out]
    have B2 := Fact.mk ((BV.out.alloc BV.out.size _).trans (hb2.mono (Nat.le_trans BV.out.size (by simp))))
    clear hb2
    go_wp2_with fail
    refine (awk14_any _).mono ?_
    rintro e W9 ⟨rfl, hb9⟩
    have B9 := Fact.mk (B2.out.trans (hb9.mono B2.out.size))
    clear hb9
    go_wp2
    go_ret
    exact ⟨rfl, B9.out⟩
set_option maxHeartbeats 4000000 in
set_option maxRecDepth 100000 in
theorem types_11 (a b t s x y z : Int) (ha : 0 ≤ a ∧ a ≤ 255) (hb : 0 ≤ b ∧ b ≤ 255) (ht : 0 ≤ t ∧ t ≤ 255) (hs : 0 ≤ s ∧ s ≤ 255) (hx : 1 + a % 5 = x) (hy : 1 + b % 5 = y) (hz : 1 + t % 5 = z) (h11 : s % 11 = 7) (w : World) :
    Calls Try.prog 8 #[.int .u8 a, .int .u8 b, .int .u8 t, .int .u8 s] w fun e w' => e = .returned (.bool true) ∧ Below w.heap.size w w' := by
  have bx : 1 ≤ x ∧ x ≤ 5 := by omega
  have bY : 1 ≤ y ∧ y ≤ 5 := by omega
  have bz : 1 ≤ z ∧ z ≤ 5 := by omega
  have one := types_one bx bY bz (o := 11) (by decide)
  obtain ⟨L, hL⟩ : ∃ L : List GIns, L = [⟨1, x, 0, 0⟩, ⟨1, y, 0, 0⟩, ⟨11, z, 0, 0⟩, ⟨17, 0, 0, 0⟩, ⟨22, 0, 0, 0⟩] := ⟨_, rfl⟩
  have e1 : typesL x y z 11 = L := by rw [hL]; rfl
  unfold typesOne typesOk at one
  rw [e1, if_neg (show ¬((11 : Int) = 15) by decide)] at one
  have WF : Fact (pg L).Wf := ⟨pg_wf fun i hi => by
    rw [hL] at hi
    simp only [List.mem_cons, List.not_mem_nil, or_false] at hi
    rcases hi with rfl | rfl | rfl | rfl | rfl <;> exact wf_mk (by omega) (by omega) (by omega) (by omega)⟩
  have RD0 : Fact (Rd encIns 4 ((w.alloc (.cells #[.int .u8 4, .int .u8 5, .int .u8 6, .int .u8 7, .int .u8 8, .int .u8 9, .int .u8 10, .int .u8 11, .int .u8 13, .int .u8 14, .int .u8 15] 57)).alloc (.cells #[.int .u8 1, .int .u8 x, .int .i64 0, .int .i64 0, .int .u8 1, .int .u8 y, .int .i64 0, .int .i64 0, .int .u8 11, .int .u8 z, .int .i64 0, .int .i64 0, .int .u8 17, .int .u8 0, .int .i64 0, .int .i64 0, .int .u8 22, .int .u8 0, .int .i64 0, .int .i64 0] 38)) (.slice (some ⟨w.heap.size + 1, 0, none⟩) 5 5) L) := by
    have := rd_ins (w := w.alloc (.cells #[.int .u8 4, .int .u8 5, .int .u8 6, .int .u8 7, .int .u8 8, .int .u8 9, .int .u8 10, .int .u8 11, .int .u8 13, .int .u8 14, .int .u8 15] 57)) (m := w.heap.size + 1) (by simp) L 38 (by rw [hL]; exact (by decide : 5 ≤ 9223372036854775807))
    rw [hL] at this ⊢
    exact ⟨this⟩
  have ONE := Fact.mk one
  clear one e1
  obtain ⟨p, hp⟩ : ∃ p, decide (x = z) = p := ⟨_, rfl⟩
  obtain ⟨q, hq⟩ : ∃ q, decide (y = z) = q := ⟨_, rfl⟩
  obtain ⟨r, hr⟩ : ∃ r, checkB (pg L) 9 = r := ⟨_, rfl⟩
  have HR := Fact.mk hr
  rw [hr, hp, hq] at ONE
  have ep := eq_bool hp
  have eq := eq_bool hq
  obtain ⟨z1, hz1⟩ : ∃ z1, decide (z = 1) = z1 := ⟨_, rfl⟩
  have ez := eq_bool hz1
  have HZ := Fact.mk hz1
  have HL := Fact.mk hL
  clear hp hq hr hz1 bx bY bz
  go_enter Try.func8, Try.ntmps8
  go_wp2_with fail
  refine (prog_any _ _ _ _).mono ?_
  rintro e V0 ⟨rfl, hb0⟩
  unfold vPg
  have RD := Fact.mk (pg_rd (RD0.out.below hb0))
  have BV : Fact (Below w.heap.size w V0) := ⟨(two_blocks w _ _).1.trans (hb0.mono (two_blocks w _ _).1.size)⟩
  clear hb0 RD0 hL
  cases p <;> cases q <;> cases z1
  all_goals
    have hr2 := ONE.out
    unfold typesBad at hr2
    rw [HZ.out] at hr2
    clear HZ ONE
    simp at hr2
    first | subst hr2 | (have er : (r == 0) = false := beq_eq_false_iff_ne.2 hr2; clear hr2)
    go_wp2_with fail
    refine (check_any (pg L) WF.out (by rw [HL.out]; simp [pg]) _ _ _ 9 _ (RD.out.below (one_block V0 _).1)).mono ?_
    rintro e W2 ⟨rfl, hb2⟩
    rw [HR.out]
    have B2 := Fact.mk ((BV.out.alloc BV.out.size _).trans (hb2.mono (Nat.le_trans BV.out.size (by simp))))
    clear hb2
    go_wp2_with fail
    refine (awk14_any _).mono ?_
    rintro e W9 ⟨rfl, hb9⟩
    have B9 := Fact.mk (B2.out.trans (hb9.mono B2.out.size))
    clear hb9
    go_wp2
    go_ret
    exact ⟨rfl, B9.out⟩
set_option maxHeartbeats 4000000 in
set_option maxRecDepth 100000 in
theorem types_13 (a b t s x y z : Int) (ha : 0 ≤ a ∧ a ≤ 255) (hb : 0 ≤ b ∧ b ≤ 255) (ht : 0 ≤ t ∧ t ≤ 255) (hs : 0 ≤ s ∧ s ≤ 255) (hx : 1 + a % 5 = x) (hy : 1 + b % 5 = y) (hz : 1 + t % 5 = z) (h11 : s % 11 = 8) (w : World) :
    Calls Try.prog 8 #[.int .u8 a, .int .u8 b, .int .u8 t, .int .u8 s] w fun e w' => e = .returned (.bool true) ∧ Below w.heap.size w w' := by
  have bx : 1 ≤ x ∧ x ≤ 5 := by omega
  have bY : 1 ≤ y ∧ y ≤ 5 := by omega
  have bz : 1 ≤ z ∧ z ≤ 5 := by omega
  have one := types_one bx bY bz (o := 13) (by decide)
  obtain ⟨L, hL⟩ : ∃ L : List GIns, L = [⟨1, x, 0, 0⟩, ⟨1, y, 0, 0⟩, ⟨13, z, 0, 0⟩, ⟨17, 0, 0, 0⟩, ⟨22, 0, 0, 0⟩] := ⟨_, rfl⟩
  have e1 : typesL x y z 13 = L := by rw [hL]; rfl
  unfold typesOne typesOk at one
  rw [e1, if_neg (show ¬((13 : Int) = 15) by decide)] at one
  have WF : Fact (pg L).Wf := ⟨pg_wf fun i hi => by
    rw [hL] at hi
    simp only [List.mem_cons, List.not_mem_nil, or_false] at hi
    rcases hi with rfl | rfl | rfl | rfl | rfl <;> exact wf_mk (by omega) (by omega) (by omega) (by omega)⟩
  have RD0 : Fact (Rd encIns 4 ((w.alloc (.cells #[.int .u8 4, .int .u8 5, .int .u8 6, .int .u8 7, .int .u8 8, .int .u8 9, .int .u8 10, .int .u8 11, .int .u8 13, .int .u8 14, .int .u8 15] 57)).alloc (.cells #[.int .u8 1, .int .u8 x, .int .i64 0, .int .i64 0, .int .u8 1, .int .u8 y, .int .i64 0, .int .i64 0, .int .u8 13, .int .u8 z, .int .i64 0, .int .i64 0, .int .u8 17, .int .u8 0, .int .i64 0, .int .i64 0, .int .u8 22, .int .u8 0, .int .i64 0, .int .i64 0] 38)) (.slice (some ⟨w.heap.size + 1, 0, none⟩) 5 5) L) := by
    have := rd_ins (w := w.alloc (.cells #[.int .u8 4, .int .u8 5, .int .u8 6, .int .u8 7, .int .u8 8, .int .u8 9, .int .u8 10, .int .u8 11, .int .u8 13, .int .u8 14, .int .u8 15] 57)) (m := w.heap.size + 1) (by simp) L 38 (by rw [hL]; exact (by decide : 5 ≤ 9223372036854775807))
    rw [hL] at this ⊢
    exact ⟨this⟩
  have ONE := Fact.mk one
  clear one e1
  obtain ⟨p, hp⟩ : ∃ p, decide (x = z) = p := ⟨_, rfl⟩
  obtain ⟨q, hq⟩ : ∃ q, decide (y = z) = q := ⟨_, rfl⟩
  obtain ⟨r, hr⟩ : ∃ r, checkB (pg L) 9 = r := ⟨_, rfl⟩
  have HR := Fact.mk hr
  rw [hr, hp, hq] at ONE
  have ep := eq_bool hp
  have eq := eq_bool hq
  obtain ⟨z1, hz1⟩ : ∃ z1, decide (z = 1) = z1 := ⟨_, rfl⟩
  have ez := eq_bool hz1
  have HZ := Fact.mk hz1
  have HL := Fact.mk hL
  clear hp hq hr hz1 bx bY bz
  go_enter Try.func8, Try.ntmps8
  go_wp2_with fail
  refine (prog_any _ _ _ _).mono ?_
  rintro e V0 ⟨rfl, hb0⟩
  unfold vPg
  have RD := Fact.mk (pg_rd (RD0.out.below hb0))
  have BV : Fact (Below w.heap.size w V0) := ⟨(two_blocks w _ _).1.trans (hb0.mono (two_blocks w _ _).1.size)⟩
  clear hb0 RD0 hL
  cases p <;> cases q <;> cases z1
  all_goals
    have hr2 := ONE.out
    unfold typesBad at hr2
    rw [HZ.out] at hr2
    clear HZ ONE
    simp at hr2
    first | subst hr2 | (have er : (r == 0) = false := beq_eq_false_iff_ne.2 hr2; clear hr2)
    go_wp2_with fail
    refine (check_any (pg L) WF.out (by rw [HL.out]; simp [pg]) _ _ _ 9 _ (RD.out.below (one_block V0 _).1)).mono ?_
    rintro e W2 ⟨rfl, hb2⟩
    rw [HR.out]
    have B2 := Fact.mk ((BV.out.alloc BV.out.size _).trans (hb2.mono (Nat.le_trans BV.out.size (by simp))))
    clear hb2
    go_wp2_with fail
    refine (awk14_any _).mono ?_
    rintro e W9 ⟨rfl, hb9⟩
    have B9 := Fact.mk (B2.out.trans (hb9.mono B2.out.size))
    clear hb9
    go_wp2
    go_ret
    exact ⟨rfl, B9.out⟩
set_option maxHeartbeats 4000000 in
set_option maxRecDepth 100000 in
theorem types_14 (a b t s x y z : Int) (ha : 0 ≤ a ∧ a ≤ 255) (hb : 0 ≤ b ∧ b ≤ 255) (ht : 0 ≤ t ∧ t ≤ 255) (hs : 0 ≤ s ∧ s ≤ 255) (hx : 1 + a % 5 = x) (hy : 1 + b % 5 = y) (hz : 1 + t % 5 = z) (h11 : s % 11 = 9) (w : World) :
    Calls Try.prog 8 #[.int .u8 a, .int .u8 b, .int .u8 t, .int .u8 s] w fun e w' => e = .returned (.bool true) ∧ Below w.heap.size w w' := by
  have bx : 1 ≤ x ∧ x ≤ 5 := by omega
  have bY : 1 ≤ y ∧ y ≤ 5 := by omega
  have bz : 1 ≤ z ∧ z ≤ 5 := by omega
  have one := types_one bx bY bz (o := 14) (by decide)
  obtain ⟨L, hL⟩ : ∃ L : List GIns, L = [⟨1, x, 0, 0⟩, ⟨1, y, 0, 0⟩, ⟨14, z, 0, 0⟩, ⟨17, 0, 0, 0⟩, ⟨22, 0, 0, 0⟩] := ⟨_, rfl⟩
  have e1 : typesL x y z 14 = L := by rw [hL]; rfl
  unfold typesOne typesOk at one
  rw [e1, if_neg (show ¬((14 : Int) = 15) by decide)] at one
  have WF : Fact (pg L).Wf := ⟨pg_wf fun i hi => by
    rw [hL] at hi
    simp only [List.mem_cons, List.not_mem_nil, or_false] at hi
    rcases hi with rfl | rfl | rfl | rfl | rfl <;> exact wf_mk (by omega) (by omega) (by omega) (by omega)⟩
  have RD0 : Fact (Rd encIns 4 ((w.alloc (.cells #[.int .u8 4, .int .u8 5, .int .u8 6, .int .u8 7, .int .u8 8, .int .u8 9, .int .u8 10, .int .u8 11, .int .u8 13, .int .u8 14, .int .u8 15] 57)).alloc (.cells #[.int .u8 1, .int .u8 x, .int .i64 0, .int .i64 0, .int .u8 1, .int .u8 y, .int .i64 0, .int .i64 0, .int .u8 14, .int .u8 z, .int .i64 0, .int .i64 0, .int .u8 17, .int .u8 0, .int .i64 0, .int .i64 0, .int .u8 22, .int .u8 0, .int .i64 0, .int .i64 0] 38)) (.slice (some ⟨w.heap.size + 1, 0, none⟩) 5 5) L) := by
    have := rd_ins (w := w.alloc (.cells #[.int .u8 4, .int .u8 5, .int .u8 6, .int .u8 7, .int .u8 8, .int .u8 9, .int .u8 10, .int .u8 11, .int .u8 13, .int .u8 14, .int .u8 15] 57)) (m := w.heap.size + 1) (by simp) L 38 (by rw [hL]; exact (by decide : 5 ≤ 9223372036854775807))
    rw [hL] at this ⊢
    exact ⟨this⟩
  have ONE := Fact.mk one
  clear one e1
  obtain ⟨p, hp⟩ : ∃ p, decide (x = z) = p := ⟨_, rfl⟩
  obtain ⟨q, hq⟩ : ∃ q, decide (y = z) = q := ⟨_, rfl⟩
  obtain ⟨r, hr⟩ : ∃ r, checkB (pg L) 9 = r := ⟨_, rfl⟩
  have HR := Fact.mk hr
  rw [hr, hp, hq] at ONE
  have ep := eq_bool hp
  have eq := eq_bool hq
  obtain ⟨z1, hz1⟩ : ∃ z1, decide (z = 1) = z1 := ⟨_, rfl⟩
  have ez := eq_bool hz1
  have HZ := Fact.mk hz1
  have HL := Fact.mk hL
  clear hp hq hr hz1 bx bY bz
  go_enter Try.func8, Try.ntmps8
  go_wp2_with fail
  refine (prog_any _ _ _ _).mono ?_
  rintro e V0 ⟨rfl, hb0⟩
  unfold vPg
  have RD := Fact.mk (pg_rd (RD0.out.below hb0))
  have BV : Fact (Below w.heap.size w V0) := ⟨(two_blocks w _ _).1.trans (hb0.mono (two_blocks w _ _).1.size)⟩
  clear hb0 RD0 hL
  cases p <;> cases q <;> cases z1
  all_goals
    have hr2 := ONE.out
    unfold typesBad at hr2
    rw [HZ.out] at hr2
    clear HZ ONE
    simp at hr2
    first | subst hr2 | (have er : (r == 0) = false := beq_eq_false_iff_ne.2 hr2; clear hr2)
    go_wp2_with fail
    refine (check_any (pg L) WF.out (by rw [HL.out]; simp [pg]) _ _ _ 9 _ (RD.out.below (one_block V0 _).1)).mono ?_
    rintro e W2 ⟨rfl, hb2⟩
    rw [HR.out]
    have B2 := Fact.mk ((BV.out.alloc BV.out.size _).trans (hb2.mono (Nat.le_trans BV.out.size (by simp))))
    clear hb2
    go_wp2_with fail
    refine (awk14_any _).mono ?_
    rintro e W9 ⟨rfl, hb9⟩
    have B9 := Fact.mk (B2.out.trans (hb9.mono B2.out.size))
    clear hb9
    go_wp2
    go_ret
    exact ⟨rfl, B9.out⟩
end Go.Proofs.Ythiapebodpkamaa

