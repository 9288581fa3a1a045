/- What is told of the places of a program that passes: plain laws. -/
import Derived.Test.YthiapebodpkamaaSteps
namespace Go.Proofs.Ythiapebodpkamaa
/-- A place of a program that passes, gone over with the places as they were then. -/
theorem final_ins {c : GCode} (h0 : (spotsB c).2.2 = 0) {k : Nat} (hk : k < c.ins.length) (hr : (spotAt (spotsB c).1 k).reached = true) :
    ∃ sj sj', sj.length = c.ins.length + 1 ∧ OneOk c.ins[k] (spotAt (spotsB c).1 k) k (effB c c.ins[k] (spotAt (spotsB c).1 k).stack) sj sj' ∧ Grew sj' (spotsB c).1 := by
  have hR := spots_right h0
  have e : spotsB c = walkB c (c.ins.length + 1) 0 (start c.ins.length) := by unfold spotsB; rw [if_pos hR]
  rw [e] at h0 hr ⊢
  obtain ⟨_, _, h3⟩ := walk_ok h0
  obtain ⟨sj, g1, g2, g3, g4⟩ := h3 k (Nat.zero_le _) (by omega)
  have hi : c.ins[k]? = some c.ins[k] := List.getElem?_eq_getElem hk
  rw [← g4] at hr
  have hs : stepAt c sj k = oneIns c.ins[k] (spotAt sj k) k (effB c c.ins[k] (spotAt sj k).stack) sj := by
    unfold stepAt; rw [if_pos hr]; exact oneB_ins hi
  rw [hs] at g2 g3
  have ok := oneIns_ok g2
  rw [g4] at ok g3
  exact ⟨sj, _, g1.1.trans (by simp [start]), ok, g3⟩
theorem final_end {c : GCode} (h0 : (spotsB c).2.2 = 0) (hr : (spotAt (spotsB c).1 c.ins.length).reached = true) : (spotAt (spotsB c).1 c.ins.length).stack = [] := by
  have hR := spots_right h0
  have e : spotsB c = walkB c (c.ins.length + 1) 0 (start c.ins.length) := by unfold spotsB; rw [if_pos hR]
  rw [e] at h0 hr ⊢
  obtain ⟨_, _, h3⟩ := walk_ok h0
  obtain ⟨sj, g1, g2, g3, g4⟩ := h3 c.ins.length (Nat.zero_le _) (by omega)
  rw [← g4] at hr ⊢
  unfold stepAt at g2
  rw [if_pos hr] at g2
  unfold oneB at g2
  rw [List.getElem?_eq_none (Nat.le_refl _)] at g2
  by_cases hp : 0 < (spotAt sj c.ins.length).stack.length
  · rw [if_pos hp] at g2; cases g2
  · exact List.eq_nil_of_length_eq_zero (by omega)
theorem Grew.at {a b : List GSpot} (h : Grew a b) {j : Nat} (hr : (spotAt a j).reached = true) {s : List Int} (hs : (spotAt a j).stack = s) {m : Int} (hm : m ≤ (spotAt a j).steps) : (spotAt b j).reached = true ∧ (spotAt b j).stack = s ∧ m ≤ (spotAt b j).steps := by
  obtain ⟨h1, h2⟩ := h.2 j
  obtain ⟨h3, h4⟩ := h1 hr
  exact ⟨h3, h4.trans hs, Int.le_trans hm h2⟩
theorem join_jump {c : GCode} (h0 : (spotsB c).2.2 = 0) {k : Nat} (hk : k < c.ins.length) (hr : (spotAt (spotsB c).1 k).reached = true) (hj : jumpsB c.ins[k] = true) :
    (k : Int) < c.ins[k].a ∧ c.ins[k].a ≤ c.ins.length ∧ (spotAt (spotsB c).1 c.ins[k].a.toNat).reached = true ∧ (spotAt (spotsB c).1 k).steps + 1 ≤ (spotAt (spotsB c).1 c.ins[k].a.toNat).steps := by
  obtain ⟨sj, sj', hl, ok, g⟩ := final_ins h0 hk hr
  have hf := (ins_ok (spots_right h0)) k hk
  have ha := fit_jump hf.2 (by simpa [jumpsB] using hj)
  have hfw := ok.fwd hj
  obtain ⟨j1, j2, j3⟩ := ok.jump hj (by omega)
  obtain ⟨r1, _, r3⟩ := g.at j1 j2 j3
  exact ⟨hfw, by omega, r1, r3⟩
theorem join_next {c : GCode} (h0 : (spotsB c).2.2 = 0) {k : Nat} (hk : k < c.ins.length) (hr : (spotAt (spotsB c).1 k).reached = true) (hs : staysB c.ins[k] = true) :
    (spotAt (spotsB c).1 (k + 1)).reached = true ∧ (spotAt (spotsB c).1 k).steps + 1 ≤ (spotAt (spotsB c).1 (k + 1)).steps := by
  obtain ⟨sj, sj', hl, ok, g⟩ := final_ins h0 hk hr
  obtain ⟨j1, j2, j3⟩ := ok.next hs (by omega)
  obtain ⟨r1, _, r3⟩ := g.at j1 j2 j3
  exact ⟨r1, r3⟩
theorem join_stop {c : GCode} (h0 : (spotsB c).2.2 = 0) {k : Nat} (hk : k < c.ins.length) (hr : (spotAt (spotsB c).1 k).reached = true) (ho : c.ins[k].op = 22) : (spotAt (spotsB c).1 k).stack = [] := by
  obtain ⟨sj, sj', hl, ok, g⟩ := final_ins h0 hk hr
  have h1 := ok.ends ho
  have he : effB c c.ins[k] (spotAt (spotsB c).1 k).stack = ([], []) := by
    unfold effB
    rw [ho]
    rfl
  rw [he] at h1
  unfold nextB at h1
  simpa using h1
theorem join_cost {c : GCode} (h0 : (spotsB c).2.2 = 0) {k : Nat} (hk : k ≤ c.ins.length) : spotCost c.ins.length k (spotAt (spotsB c).1 k) ≤ stepsB c := by
  have hl := (spots_plc h0).len
  have e : stepsB c = mostB c.ins.length 0 (spotsB c).1 0 := by unfold stepsB; rw [if_pos h0]
  have := (most_le c.ins.length (spotsB c).1 0 0).2 k (by omega)
  rw [Nat.zero_add] at this
  rw [e]
  have e2 : spotAt (spotsB c).1 k = (spotsB c).1[k]'(by omega) := by unfold spotAt; rw [List.getD_eq_getElem?_getD, List.getElem?_eq_getElem (by omega)]; rfl
  rw [e2]
  exact this
theorem join_start {c : GCode} (h0 : (spotsB c).2.2 = 0) : (spotAt (spotsB c).1 0).reached = true := by
  have hR := spots_right h0
  have e : spotsB c = walkB c (c.ins.length + 1) 0 (start c.ins.length) := by unfold spotsB; rw [if_pos hR]
  rw [e] at h0 ⊢
  exact (((walk_ok h0).1.2 0).1 rfl).1
end Go.Proofs.Ythiapebodpkamaa

