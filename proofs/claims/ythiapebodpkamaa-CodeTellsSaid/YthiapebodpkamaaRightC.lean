/- The contract of code.Right. -/
import Derived.Test.YthiapebodpkamaaRightB
import Derived.Outline
namespace Go.Proofs.Ythiapebodpkamaa
open Go.RowKit Go.Shelf
set_option maxHeartbeats 2000000 in
set_option maxRecDepth 100000 in
theorem right_any (c : GCode) (hw : c.Wf) (hn : (c.ins.length : Int) < 9223372036854775807) (vs bs is : Value) (w : World) (h : CodeRd w c vs bs is) :
    Calls Try.prog 18 #[.agg #[.string c.name, vs, bs, is]] w fun e w' => e = .returned (.bool (rightB c)) ∧ Below w.heap.size w w' := by
  have hmm := @run_makeMap Try.prog
  obtain ⟨A1, c1, rfl⟩ : ∃ A c', vs = .slice A c.vars.length c' := by obtain ⟨_, A, c', h, _⟩ := h.vars; exact ⟨A, c', h⟩
  obtain ⟨A2, c2, rfl⟩ : ∃ A c', bs = .slice A c.blocks.length c' := by obtain ⟨_, A, c', h, _⟩ := h.blocks; exact ⟨A, c', h⟩
  obtain ⟨A3, c3, rfl⟩ : ∃ A c', is = .slice A c.ins.length c' := by obtain ⟨_, A, c', h, _⟩ := h.ins; exact ⟨A, c', h⟩
  have hr : rightB c = (namedB c.name && decide ((c.vars.length : Int) ≤ 200) && decide ((c.blocks.length : Int) ≤ 100) && decide (1 ≤ (c.ins.length : Int)) && decide ((c.ins.length : Int) ≤ 2000) && !(varsBad c) && !(blocksBad c) && !(inssBad c)) := by
    have e1 : decide ((c.vars.length : Int) ≤ 200) = decide (c.vars.length ≤ 200) := by rw [decide_eq_decide]; omega
    have e2 : decide ((c.blocks.length : Int) ≤ 100) = decide (c.blocks.length ≤ 100) := by rw [decide_eq_decide]; omega
    have e3 : decide (1 ≤ (c.ins.length : Int)) = decide (1 ≤ c.ins.length) := by rw [decide_eq_decide]; omega
    have e4 : decide ((c.ins.length : Int) ≤ 2000) = decide (c.ins.length ≤ 2000) := by rw [decide_eq_decide]; omega
    rw [e1, e2, e3, e4]
    rfl
  rw [hr]
  clear hr
  have m1 := h.vars.1
  have m2 := h.blocks.1
  have m3 := h.ins.1
  generalize gb0 : namedB c.name = b0
  generalize gb1 : varsBad c = b1
  generalize gb2 : blocksBad c = b2
  generalize gb3 : inssBad c = b3
  have F := Fact.mk (And.intro gb0 (And.intro gb1 (And.intro gb2 gb3)))
  clear gb0 gb1 gb2 gb3
  have H := Fact.mk h
  clear h
  go_enter Try.func18, Try.ntmps18
  go_wp2_with fail
  obtain ⟨w0, hW, hb0, hbC, hbM, hbS, hsz⟩ := three_blocks w (.cells #[.string c.name, .slice A1 c.vars.length c1, .slice A2 c.blocks.length c2, .slice A3 c.ins.length c3] 32) (.map #[] 0) (.cells #[.map (some (w.heap.size + 1))] 78)
  rw [← hW]
  clear hW hmm
  have hRS : RSt w c (.slice A1 c.vars.length c1) (.slice A2 c.blocks.length c2) (.slice A3 c.ins.length c3) w.heap.size w0 :=
    ⟨hb0, H.out.below hb0, ⟨by rw [cell_of_row _ _ 0 _ _ _ hbC]; rfl, by rw [cell_of_row _ _ 1 _ _ _ hbC]; rfl, by rw [cell_of_row _ _ 2 _ _ _ hbC]; rfl, by rw [cell_of_row _ _ 3 _ _ _ hbC]; rfl⟩⟩
  have hS : w0.cell? ⟨w.heap.size + 1 + 1, 0, none⟩ = some (.map (some (w.heap.size + 1))) := by rw [cell_of_row _ _ 0 _ _ _ hbS]; rfl
  have hM : MapFn mkStr w0 (w.heap.size + 1) (setFn []) := ⟨[], ⟨#[], 0, hbM, rfl⟩, fun a => rfl⟩
  have B0 := hRS.box
  obtain ⟨k0, k1, k2, k3⟩ := B0
  have HR := Fact.mk hRS
  have HM := Fact.mk hM
  clear hRS hM hb0 hbC hbM hbS hsz H
  refine (named_any _ _).mono ?_
  rintro e w' ⟨rfl, rfl⟩
  rw [F.out.1]
  cases b0 with
  | false =>
    go_wp2_with fail
    go_ret
    exact ⟨ret_bool (by simp), HR.out.bel⟩
  | true =>
  by_cases q1 : (c.vars.length : Int) ≤ 200
  case neg =>
    go_wp2_with fail
    go_ret
    exact ⟨ret_bool (by simp; intros; omega), HR.out.bel⟩
  by_cases q2 : (c.blocks.length : Int) ≤ 100
  case neg =>
    go_wp2_with fail
    go_ret
    exact ⟨ret_bool (by simp; intros; omega), HR.out.bel⟩
  by_cases q3 : 1 ≤ (c.ins.length : Int)
  case neg =>
    go_wp2_with fail
    go_ret
    exact ⟨ret_bool (by simp; intros; omega), HR.out.bel⟩
  by_cases q4 : (c.ins.length : Int) ≤ 2000
  case neg =>
    go_wp2_with fail
    go_ret
    exact ⟨ret_bool (by simp; intros; omega), HR.out.bel⟩
  have Q := Fact.mk (And.intro q1 (And.intro q2 (And.intro q3 q4)))
  have e1 : decide (200 < (c.vars.length : Int)) = false := by rw [decide_eq_false_iff_not]; omega
  have e2 : decide (100 < (c.blocks.length : Int)) = false := by rw [decide_eq_false_iff_not]; omega
  have e3 : decide ((c.ins.length : Int) < 1) = false := by rw [decide_eq_false_iff_not]; omega
  have e4 : decide (2000 < (c.ins.length : Int)) = false := by rw [decide_eq_false_iff_not]; omega
  go_wp2_with fail
  refine (vars_any w c _ _ _ w.heap.size (w.heap.size + 1 + 1) (w.heap.size + 1) _ hw HR.out (by omega) hS HM.out).mono ?_
  rw [F.out.2.1]
  rintro e w1 ⟨rfl, h1⟩
  have h1' := Fact.mk h1
  obtain ⟨a0, a1, a2, a3⟩ := h1.box
  clear h1 hS k0 k1 k2 k3 m1 m2 m3 q1 q2 q3 q4
  cases b1 with
  | true =>
    go_wp2_with fail
    go_ret
    exact ⟨ret_bool (by simp), h1'.out.bel⟩
  | false =>
  go_wp2_with fail
  refine (blocks_any w c _ _ _ w.heap.size _ h1'.out).mono ?_
  rw [F.out.2.2.1]
  rintro e w2 ⟨rfl, h2⟩
  have h2' := Fact.mk h2
  obtain ⟨d0, d1, d2, d3⟩ := h2.box
  clear h2 a0 a1 a2 a3
  cases b2 with
  | true =>
    go_wp2_with fail
    go_ret
    exact ⟨ret_bool (by simp), h2'.out.bel⟩
  | false =>
  go_wp2_with fail
  refine (inss_any w c _ _ _ w.heap.size _ hw hn h2'.out).mono ?_
  rw [F.out.2.2.2]
  rintro e w3 ⟨rfl, h3⟩
  have h3' := Fact.mk h3
  clear h3
  go_wp2_with fail
  go_ret
  exact ⟨ret_bool (by simp [Q.out.1, Q.out.2.1, Q.out.2.2.1, Q.out.2.2.2]), h3'.out.bel⟩
end Go.Proofs.Ythiapebodpkamaa

