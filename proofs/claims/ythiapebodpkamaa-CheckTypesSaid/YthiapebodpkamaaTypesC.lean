/- CheckTypes: the walk at the sign that converts. -/
import Derived.Test.YthiapebodpkamaaTypesW
import Derived.Test.YthiapebodpkamaaPushL
import Derived.Test.YthiapebodpkamaaReg
import Derived.Deep.DeepCutAuto
namespace Go.Proofs.Ythiapebodpkamaa
open Go.RowKit
theorem row4 {w : World} {g : Nat} {a b c d : Value} {T : TypeId} (h : w.heap[g]? = some (.cells #[a, b, c, d] T (0, 0))) : w.cell? ⟨g, 0, none⟩ = some a ∧ w.cell? ⟨g, 1, none⟩ = some b ∧ w.cell? ⟨g, 2, none⟩ = some c ∧ w.cell? ⟨g, 3, none⟩ = some d :=
  ⟨by rw [cell_of_row _ _ 0 _ _ _ h]; rfl, by rw [cell_of_row _ _ 1 _ _ _ h]; rfl, by rw [cell_of_row _ _ 2 _ _ _ h]; rfl, by rw [cell_of_row _ _ 3 _ _ _ h]; rfl⟩
set_option maxHeartbeats 4000000 in
set_option maxRecDepth 100000 in
theorem types_15 (a b t s x y z : Int) (ha : 0 ≤ a ∧ a ≤ 255) (hb : 0 ≤ b ∧ b ≤ 255) (ht : 0 ≤ t ∧ t ≤ 255) (hs : 0 ≤ s ∧ s ≤ 255) (hx : 1 + a % 5 = x) (hy : 1 + b % 5 = y) (hz : 1 + t % 5 = z) (h11 : s % 11 = 10) (w : World) :
    Calls Try.prog 8 #[.int .u8 a, .int .u8 b, .int .u8 t, .int .u8 s] w fun e w' => e = .returned (.bool true) ∧ Below w.heap.size w w' := by
  have bx : 1 ≤ x ∧ x ≤ 5 := by omega
  have bY : 1 ≤ y ∧ y ≤ 5 := by omega
  have bz : 1 ≤ z ∧ z ≤ 5 := by omega
  have one := types_one bx bY bz (o := 15) (by decide)
  obtain ⟨L, hL⟩ : ∃ L : List GIns, L = [⟨1, x, 0, 0⟩, ⟨1, y, 0, 0⟩, ⟨15, z, x, 0⟩, ⟨13, x, 0, 0⟩, ⟨17, 0, 0, 0⟩, ⟨22, 0, 0, 0⟩] := ⟨_, rfl⟩
  have e1 : typesL x y z 15 = L := by rw [hL]; rfl
  unfold typesOne typesOk at one
  rw [e1, if_pos rfl] at one
  have e2 : typesBad z 15 = false := by unfold typesBad; simp
  rw [e2, if_neg Bool.false_ne_true] at one
  have WF : Fact (pg L).Wf := ⟨pg_wf fun i hi => by
    rw [hL] at hi
    simp only [List.mem_cons, List.not_mem_nil, or_false] at hi
    rcases hi with rfl | rfl | rfl | rfl | rfl | rfl <;> exact wf_mk (by omega) (by omega) (by omega) (by omega)⟩
  have ONE := Fact.mk one
  clear one e1 e2
  obtain ⟨p, hp⟩ : ∃ p, decide (y = x) = p := ⟨_, rfl⟩
  obtain ⟨q, hq⟩ : ∃ q, decide (z = x) = q := ⟨_, rfl⟩
  obtain ⟨r, hr⟩ : ∃ r, checkB (pg L) 9 = r := ⟨_, rfl⟩
  have HR := Fact.mk hr
  rw [hr, hp, hq] at ONE
  have ep := eq_bool hp
  have eq := eq_bool hq
  obtain ⟨p2, hp2⟩ : ∃ p, decide (x = z) = p := ⟨_, rfl⟩
  obtain ⟨q2, hq2⟩ : ∃ q, decide (y = z) = q := ⟨_, rfl⟩
  have ep2 := eq_bool hp2
  have eq2 := eq_bool hq2
  have HL := Fact.mk hL
  clear hp hq hr bx bY bz hp2 hq2 hL
  go_enter Try.func8, Try.ntmps8
  go_wp2_with fail
  refine (prog_any _ _ _ _).mono ?_
  rintro e V0 ⟨rfl, hb0⟩
  unfold vPg
  have BV : Fact (Below w.heap.size w V0) := ⟨(two_blocks w _ _).1.trans (hb0.mono (two_blocks w _ _).1.size)⟩
  have RW : Fact (V0.heap[w.heap.size + 1]? = some (.cells #[.int .u8 1, .int .u8 x, .int .i64 0, .int .i64 0, .int .u8 1, .int .u8 y, .int .i64 0, .int .i64 0, .int .u8 15, .int .u8 z, .int .i64 0, .int .i64 0, .int .u8 17, .int .u8 0, .int .i64 0, .int .i64 0, .int .u8 22, .int .u8 0, .int .i64 0, .int .i64 0] 38 (0, 0))) := ⟨(hb0.block (w.heap.size + 1) (by rw [(two_blocks w _ _).2.2.2]; omega)).trans (two_blocks w _ _).2.2.1⟩
  clear hb0
  have lw : w.heap.size + 1 < V0.heap.size := (Array.getElem?_eq_some_iff.1 RW.out).1
  have c10 : V0.cell? ⟨w.heap.size + 1, 10, none⟩ = some (.int .i64 0) := by rw [cell_of_row _ _ 10 _ _ _ RW.out]; rfl
  have c12 : V0.cell? ⟨w.heap.size + 1, 12, none⟩ = some (.int .u8 17) := by rw [cell_of_row _ _ 12 _ _ _ RW.out]; rfl
  have c13 : V0.cell? ⟨w.heap.size + 1, 13, none⟩ = some (.int .u8 0) := by rw [cell_of_row _ _ 13 _ _ _ RW.out]; rfl
  have c14 : V0.cell? ⟨w.heap.size + 1, 14, none⟩ = some (.int .i64 0) := by rw [cell_of_row _ _ 14 _ _ _ RW.out]; rfl
  have c15 : V0.cell? ⟨w.heap.size + 1, 15, none⟩ = some (.int .i64 0) := by rw [cell_of_row _ _ 15 _ _ _ RW.out]; rfl
  have f10 : V0.frozen? ⟨w.heap.size + 1, 10, none⟩ = false := frozen_of_row _ _ 10 _ _ RW.out
  have f12 : V0.frozen? ⟨w.heap.size + 1, 12, none⟩ = false := frozen_of_row _ _ 12 _ _ RW.out
  have f13 : V0.frozen? ⟨w.heap.size + 1, 13, none⟩ = false := frozen_of_row _ _ 13 _ _ RW.out
  have f14 : V0.frozen? ⟨w.heap.size + 1, 14, none⟩ = false := frozen_of_row _ _ 14 _ _ RW.out
  have f15 : V0.frozen? ⟨w.heap.size + 1, 15, none⟩ = false := frozen_of_row _ _ 15 _ _ RW.out
  have RW1 : (((((V0.setCell ⟨w.heap.size + 1, 10, none⟩ (.int .i64 x)).setCell ⟨w.heap.size + 1, 12, none⟩ (.int .u8 13)).setCell ⟨w.heap.size + 1, 13, none⟩ (.int .u8 x)).setCell ⟨w.heap.size + 1, 14, none⟩ (.int .i64 0)).setCell ⟨w.heap.size + 1, 15, none⟩ (.int .i64 0)).heap[w.heap.size + 1]? = some (.cells #[.int .u8 1, .int .u8 x, .int .i64 0, .int .i64 0, .int .u8 1, .int .u8 y, .int .i64 0, .int .i64 0, .int .u8 15, .int .u8 z, .int .i64 x, .int .i64 0, .int .u8 13, .int .u8 x, .int .i64 0, .int .i64 0, .int .u8 22, .int .u8 0, .int .i64 0, .int .i64 0] 38 (0, 0)) :=
    heap_setCell_same _ _ 15 _ _ (.int .i64 0) (heap_setCell_same _ _ 14 _ _ (.int .i64 0) (heap_setCell_same _ _ 13 _ _ (.int .u8 x) (heap_setCell_same _ _ 12 _ _ (.int .u8 13) (heap_setCell_same _ _ 10 _ _ (.int .i64 x) RW.out))))
  have HRW := Fact.mk RW1
  have BV1 := Fact.mk (((((BV.out.setCell (p := ⟨w.heap.size + 1, 10, none⟩) (by simp) (.int .i64 x)).setCell (p := ⟨w.heap.size + 1, 12, none⟩) (by simp) (.int .u8 13)).setCell (p := ⟨w.heap.size + 1, 13, none⟩) (by simp) (.int .u8 x)).setCell (p := ⟨w.heap.size + 1, 14, none⟩) (by simp) (.int .i64 0)).setCell (p := ⟨w.heap.size + 1, 15, none⟩) (by simp) (.int .i64 0))
  have lv : w.heap.size + 1 < (((((V0.setCell ⟨w.heap.size + 1, 10, none⟩ (.int .i64 x)).setCell ⟨w.heap.size + 1, 12, none⟩ (.int .u8 13)).setCell ⟨w.heap.size + 1, 13, none⟩ (.int .u8 x)).setCell ⟨w.heap.size + 1, 14, none⟩ (.int .i64 0)).setCell ⟨w.heap.size + 1, 15, none⟩ (.int .i64 0)).heap.size := (Array.getElem?_eq_some_iff.1 RW1).1
  clear RW1 RW BV
  obtain ⟨i0, hi, hz0, hz1, hz2⟩ := insInfoT
  cases p2 <;> cases q2
  all_goals
    go_upto_region 10 with (fail)
    clear c10 c12 c13 c14 c15 f10 f12 f13 f14 f15 ep2 eq2
    have hsz : V0.heap.size = (((((V0.setCell ⟨w.heap.size + 1, 10, none⟩ (.int .i64 x)).setCell ⟨w.heap.size + 1, 12, none⟩ (.int .u8 13)).setCell ⟨w.heap.size + 1, 13, none⟩ (.int .u8 x)).setCell ⟨w.heap.size + 1, 14, none⟩ (.int .i64 0)).setCell ⟨w.heap.size + 1, 15, none⟩ (.int .i64 0)).heap.size := by simp
    rw [hsz]
    clear hsz lw
    generalize ((((V0.setCell ⟨w.heap.size + 1, 10, none⟩ (.int .i64 x)).setCell ⟨w.heap.size + 1, 12, none⟩ (.int .u8 13)).setCell ⟨w.heap.size + 1, 13, none⟩ (.int .u8 x)).setCell ⟨w.heap.size + 1, 14, none⟩ (.int .i64 0)).setCell ⟨w.heap.size + 1, 15, none⟩ (.int .i64 0) = V1 at HRW BV1 lv ⊢
    go_wp2_with (at_builtin; refine wpList_append_arg _ rfl _ _ 30 rfl 38 i0 (.agg #[.int .u8 0, .int .u8 0, .int .i64 0, .int .i64 0]) 4 24 Try.underlying30 hi hz0 hz1 hz2 rfl (by decide) (w.heap.size + 1) 0 4 4 [.int .u8 1, .int .u8 x, .int .i64 0, .int .i64 0, .int .u8 1, .int .u8 y, .int .i64 0, .int .i64 0, .int .u8 15, .int .u8 z, .int .i64 x, .int .i64 0, .int .u8 13, .int .u8 x, .int .i64 0, .int .i64 0] rfl rfl ?_ ⟨V1.heap.size + 1, 0, none⟩ 2 2 [.int .u8 17, .int .u8 0, .int .i64 0, .int .i64 0, .int .u8 22, .int .u8 0, .int .i64 0, .int .i64 0] rfl rfl ?_ ?_ ?_ (by simp [maxLen]) (by omega) ?_ ?_)
    case refine_1 =>
      intro j u hu
      have hj := (List.getElem?_eq_some_iff.1 hu).1
      have hb := ((two_blocks V1 (pgBox (some ⟨w.heap.size + 1, 0, none⟩) 5 5) (.cells #[.int .u8 17, .int .u8 0, .int .i64 0, .int .i64 0, .int .u8 22, .int .u8 0, .int .i64 0, .int .i64 0] 38)).1.block (w.heap.size + 1) lv).trans HRW.out
      rw [Nat.zero_add, cell_of_row _ _ j _ _ _ hb, List.getElem?_toArray]
      exact (List.getElem?_append_left (l₁ := [.int .u8 1, .int .u8 x, .int .i64 0, .int .i64 0, .int .u8 1, .int .u8 y, .int .i64 0, .int .i64 0, .int .u8 15, .int .u8 z, .int .i64 x, .int .i64 0, .int .u8 13, .int .u8 x, .int .i64 0, .int .i64 0]) (l₂ := [.int .u8 22, .int .u8 0, .int .i64 0, .int .i64 0]) hj).trans hu
    case refine_2 =>
      intro j u hu
      have hb := (two_blocks V1 (pgBox (some ⟨w.heap.size + 1, 0, none⟩) 5 5) (.cells #[.int .u8 17, .int .u8 0, .int .i64 0, .int .i64 0, .int .u8 22, .int .u8 0, .int .i64 0, .int .i64 0] 38)).2.2.1
      rw [add_plain, cell_of_row _ _ j _ _ _ hb, List.getElem?_toArray]
      exact hu
    case refine_3 =>
      intro u hu
      simp only [List.mem_cons, List.not_mem_nil, or_false] at hu
      rcases hu with rfl | rfl | rfl | rfl | rfl | rfl | rfl | rfl <;> rfl
    case refine_4 => exact fun h => absurd h (by decide)
    case refine_6 =>
      intro v' W2 ho hg
      have hb2 : Below V1.heap.size V1 W2 := (two_blocks V1 _ _).1.grown hg (two_blocks V1 _ _).1.size (fun k hk => by cases hk)
      have hbx : W2.heap[V1.heap.size]? = some (.cells #[.string ⟨#[112]⟩, .slice none 0 0, .slice none 0 0, .slice (some ⟨w.heap.size + 1, 0, none⟩) 5 5] 32 (0, 0)) := (hg.block V1.heap.size (by rw [(two_blocks V1 _ _).2.2.2]; omega) (fun e => by cases e)).trans (two_blocks V1 _ _).2.1
      have HO : Fact (Own 38 4 encIns W2 (V1.heap.size + 1 + 1) v' L) := ⟨by rw [HL.out]; exact ho⟩
      have d3 : W2.cell? ⟨V1.heap.size, 3, none⟩ = some (.slice (some ⟨w.heap.size + 1, 0, none⟩) 5 5) := by rw [cell_of_row _ _ 3 _ _ _ hbx]; rfl
      have f3 : W2.frozen? ⟨V1.heap.size, 3, none⟩ = false := frozen_of_row _ _ 3 _ _ hbx
      have HBX := Fact.mk hbx
      have HB2 := Fact.mk hb2
      clear ho hg hb2 hbx HRW
      obtain ⟨A2, c2, rfl⟩ := HO.out.slice2
      have l6 : L.length = 6 := by rw [HL.out]; rfl
      rw [l6] at HO ⊢
      go_upto_region 11 with (fail)
      have hbx3 := set4_3 (u := .slice A2 6 c2) HBX.out
      have ho3 := HO.out.set HBX.out (by decide) 3 (.slice A2 6 c2)
      have hb3 := HB2.out.setCell (p := ⟨V1.heap.size, 3, none⟩) (Nat.le_refl _) (.slice A2 6 c2)
      clear d3 f3 HBX HB2 HO l6
      generalize W2.setCell ⟨V1.heap.size, 3, none⟩ (.slice A2 6 c2) = W3 at hbx3 ho3 hb3 ⊢
      obtain ⟨d0, d1, d2, d3⟩ := row4 hbx3
      have RD := Fact.mk (pg_rd (ho3.rd encIns_len))
      have B3 := Fact.mk (BV1.out.trans (hb3.mono BV1.out.size))
      clear hbx3 ho3 hb3
      cases p <;> cases q
      all_goals
        have hr2 := ONE.out
        clear ONE
        simp at hr2
        first | subst hr2 | (have er : (r == 0) = false := beq_eq_false_iff_ne.2 hr2; clear hr2)
        go_wp2_with fail
        refine (check_any (pg L) WF.out (by rw [HL.out]; simp [pg]) _ _ _ 9 _ RD.out).mono ?_
        rintro e W4 ⟨rfl, hb4⟩
        rw [HR.out]
        have B4 := Fact.mk (B3.out.trans (hb4.mono B3.out.size))
        clear hb4 d0 d1 d2 d3
        go_wp2_with fail
        refine (awk14_any _).mono ?_
        rintro e W9 ⟨rfl, hb9⟩
        have B9 := Fact.mk (B4.out.trans (hb9.mono B4.out.size))
        clear hb9
        go_wp2
        go_ret
        exact ⟨rfl, B9.out⟩
theorem types_any14 (a b t s : Int) (a0 : 0 ≤ a) (a1 : a ≤ 255) (b0 : 0 ≤ b) (b1 : b ≤ 255) (t0 : 0 ≤ t) (t1 : t ≤ 255) (s0 : 0 ≤ s) (s1 : s ≤ 255) (w : World) :
    Calls Try.prog 8 #[.int .u8 a, .int .u8 b, .int .u8 t, .int .u8 s] w fun e w' => e = .returned (.bool true) ∧ Below w.heap.size w w' := by
  have h : s % 11 = 0 ∨ s % 11 = 1 ∨ s % 11 = 2 ∨ s % 11 = 3 ∨ s % 11 = 4 ∨ s % 11 = 5 ∨ s % 11 = 6 ∨ s % 11 = 7 ∨ s % 11 = 8 ∨ s % 11 = 9 ∨ s % 11 = 10 := by omega
  rcases h with h | h | h | h | h | h | h | h | h | h | h
  · exact types_4 a b t s _ _ _ ⟨a0, a1⟩ ⟨b0, b1⟩ ⟨t0, t1⟩ ⟨s0, s1⟩ rfl rfl rfl h w
  · exact types_5 a b t s _ _ _ ⟨a0, a1⟩ ⟨b0, b1⟩ ⟨t0, t1⟩ ⟨s0, s1⟩ rfl rfl rfl h w
  · exact types_6 a b t s _ _ _ ⟨a0, a1⟩ ⟨b0, b1⟩ ⟨t0, t1⟩ ⟨s0, s1⟩ rfl rfl rfl h w
  · exact types_7 a b t s _ _ _ ⟨a0, a1⟩ ⟨b0, b1⟩ ⟨t0, t1⟩ ⟨s0, s1⟩ rfl rfl rfl h w
  · exact types_8 a b t s _ _ _ ⟨a0, a1⟩ ⟨b0, b1⟩ ⟨t0, t1⟩ ⟨s0, s1⟩ rfl rfl rfl h w
  · exact types_9 a b t s _ _ _ ⟨a0, a1⟩ ⟨b0, b1⟩ ⟨t0, t1⟩ ⟨s0, s1⟩ rfl rfl rfl h w
  · exact types_10 a b t s _ _ _ ⟨a0, a1⟩ ⟨b0, b1⟩ ⟨t0, t1⟩ ⟨s0, s1⟩ rfl rfl rfl h w
  · exact types_11 a b t s _ _ _ ⟨a0, a1⟩ ⟨b0, b1⟩ ⟨t0, t1⟩ ⟨s0, s1⟩ rfl rfl rfl h w
  · exact types_13 a b t s _ _ _ ⟨a0, a1⟩ ⟨b0, b1⟩ ⟨t0, t1⟩ ⟨s0, s1⟩ rfl rfl rfl h w
  · exact types_14 a b t s _ _ _ ⟨a0, a1⟩ ⟨b0, b1⟩ ⟨t0, t1⟩ ⟨s0, s1⟩ rfl rfl rfl h w
  · exact types_15 a b t s _ _ _ ⟨a0, a1⟩ ⟨b0, b1⟩ ⟨t0, t1⟩ ⟨s0, s1⟩ rfl rfl rfl h w
end Go.Proofs.Ythiapebodpkamaa

