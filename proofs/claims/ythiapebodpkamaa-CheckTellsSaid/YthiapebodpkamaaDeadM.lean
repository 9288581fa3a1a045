/- What is told of the places of a program that passes: plain laws. -/
import Derived.Test.YthiapebodpkamaaSteps
namespace Go.Proofs.Ythiapebodpkamaa
/-- A place of a program that passes, gone over with the places as they were then. -/
theorem final_ins {c : GCode} (h0 : (spotsB c).2.2 = 0) {k : Nat} (hk : k < c.ins.length) (hr : (spotAt (spotsB c).1 k).reached = true) :
    ∃ sj sj', sj.length = c.ins.length + 1 ∧ OneOk c.ins[k] (spotAt (spotsB c).1 k) k (effB c c.ins[k] (spotAt (spotsB c).1 k).stack) sj sj' ∧ Grew sj' (spotsB c).1 := by
  have hR := spots_right h0
  have e : spotsB c = walkB c (c.ins.length + 1) 0 (start c.ins.length) := by unfold spotsB; rw [if_pos hR]
  rw [e] at h0 hr ⊢
  obtain ⟨_, _, h3⟩ := walk_ok h0
  obtain ⟨sj, g1, g2, g3, g4⟩ := h3 k (Nat.zero_le _) (by omega)
  have hi : c.ins[k]? = some c.ins[k] := List.getElem?_eq_getElem hk
  rw [← g4] at hr
  have hs : stepAt c sj k = oneIns c.ins[k] (spotAt sj k) k (effB c c.ins[k] (spotAt sj k).stack) sj := by
    unfold stepAt; rw [if_pos hr]; exact oneB_ins hi
  rw [hs] at g2 g3
  have ok := oneIns_ok g2
  rw [g4] at ok g3
  exact ⟨sj, _, g1.1.trans (by simp [start]), ok, g3⟩
theorem final_end {c : GCode} (h0 : (spotsB c).2.2 = 0) (hr : (spotAt (spotsB c).1 c.ins.length).reached = true) : (spotAt (spotsB c).1 c.ins.length).stack = [] := by
  have hR := spots_right h0
  have e : spotsB c = walkB c (c.ins.length + 1) 0 (start c.ins.length) := by unfold spotsB; rw [if_pos hR]
  rw [e] at h0 hr ⊢
  obtain ⟨_, _, h3⟩ := walk_ok h0
  obtain ⟨sj, g1, g2, g3, g4⟩ := h3 c.ins.length (Nat.zero_le _) (by omega)
  rw [← g4] at hr ⊢
  unfold stepAt at g2
  rw [if_pos hr] at g2
  unfold oneB at g2
  rw [List.getElem?_eq_none (Nat.le_refl _)] at g2
  by_cases hp : 0 < (spotAt sj c.ins.length).stack.length
  · rw [if_pos hp] at g2; cases g2
  · exact List.eq_nil_of_length_eq_zero (by omega)
theorem Grew.at {a b : List GSpot} (h : Grew a b) {j : Nat} (hr : (spotAt a j).reached = true) {s : List Int} (hs : (spotAt a j).stack = s) {m : Int} (hm : m ≤ (spotAt a j).steps) : (spotAt b j).reached = true ∧ (spotAt b j).stack = s ∧ m ≤ (spotAt b j).steps := by
  obtain ⟨h1, h2⟩ := h.2 j
  obtain ⟨h3, h4⟩ := h1 hr
  exact ⟨h3, h4.trans hs, Int.le_trans hm h2⟩
theorem join_jump {c : GCode} (h0 : (spotsB c).2.2 = 0) {k : Nat} (hk : k < c.ins.length) (hr : (spotAt (spotsB c).1 k).reached = true) (hj : jumpsB c.ins[k] = true) :
    (k : Int) < c.ins[k].a ∧ c.ins[k].a ≤ c.ins.length ∧ (spotAt (spotsB c).1 c.ins[k].a.toNat).reached = true ∧ (spotAt (spotsB c).1 k).steps + 1 ≤ (spotAt (spotsB c).1 c.ins[k].a.toNat).steps := by
  obtain ⟨sj, sj', hl, ok, g⟩ := final_ins h0 hk hr
  have hf := (ins_ok (spots_right h0)) k hk
  have ha := fit_jump hf.2 (by simpa [jumpsB] using hj)
  have hfw := ok.fwd hj
  obtain ⟨j1, j2, j3⟩ := ok.jump hj (by omega)
  obtain ⟨r1, _, r3⟩ := g.at j1 j2 j3
  exact ⟨hfw, by omega, r1, r3⟩
theorem join_next {c : GCode} (h0 : (spotsB c).2.2 = 0) {k : Nat} (hk : k < c.ins.length) (hr : (spotAt (spotsB c).1 k).reached = true) (hs : staysB c.ins[k] = true) :
    (spotAt (spotsB c).1 (k + 1)).reached = true ∧ (spotAt (spotsB c).1 k).steps + 1 ≤ (spotAt (spotsB c).1 (k + 1)).steps := by
  obtain ⟨sj, sj', hl, ok, g⟩ := final_ins h0 hk hr
  obtain ⟨j1, j2, j3⟩ := ok.next hs (by omega)
  obtain ⟨r1, _, r3⟩ := g.at j1 j2 j3
  exact ⟨r1, r3⟩
theorem join_stop {c : GCode} (h0 : (spotsB c).2.2 = 0) {k : Nat} (hk : k < c.ins.length) (hr : (spotAt (spotsB c).1 k).reached = true) (ho : c.ins[k].op = 22) : (spotAt (spotsB c).1 k).stack = [] := by
  obtain ⟨sj, sj', hl, ok, g⟩ := final_ins h0 hk hr
  have h1 := ok.ends ho
  have he : effB c c.ins[k] (spotAt (spotsB c).1 k).stack = ([], []) := by
    unfold effB
    rw [ho]
    rfl
  rw [he] at h1
  unfold nextB at h1
  simpa using h1
theorem join_cost {c : GCode} (h0 : (spotsB c).2.2 = 0) {k : Nat} (hk : k ≤ c.ins.length) : spotCost c.ins.length k (spotAt (spotsB c).1 k) ≤ stepsB c := by
  have hl := (spots_plc h0).len
  have e : stepsB c = mostB c.ins.length 0 (spotsB c).1 0 := by unfold stepsB; rw [if_pos h0]
  have := (most_le c.ins.length (spotsB c).1 0 0).2 k (by omega)
  rw [Nat.zero_add] at this
  rw [e]
  have e2 : spotAt (spotsB c).1 k = (spotsB c).1[k]'(by omega) := by unfold spotAt; rw [List.getD_eq_getElem?_getD, List.getElem?_eq_getElem (by omega)]; rfl
  rw [e2]
  exact this
theorem join_start {c : GCode} (h0 : (spotsB c).2.2 = 0) : (spotAt (spotsB c).1 0).reached = true := by
  have hR := spots_right h0
  have e : spotsB c = walkB c (c.ins.length + 1) 0 (start c.ins.length) := by unfold spotsB; rw [if_pos hR]
  rw [e] at h0 ⊢
  exact (((walk_ok h0).1.2 0).1 rfl).1
end Go.Proofs.Ythiapebodpkamaa

namespace Go.Proofs.Ythiapebodpkamaa
def endIns : GIns := ⟨22, 0, 0, 0⟩
def deadB (c : GCode) (k : Nat) : GCode := { c with ins := c.ins.set k endIns }
theorem dead_len (c : GCode) (k : Nat) : (deadB c k).ins.length = c.ins.length := List.length_set
theorem dead_fits (c : GCode) (k : Nat) (i : GIns) : fitsB (deadB c k) i = fitsB c i := by
  have e : ∀ ch n, chk (deadB c k) i ch n = chk c i ch n := by
    intro ch n
    unfold chk
    simp only [dead_len]
    rfl
  unfold fitsB
  simp only [e]
theorem end_fits (c : GCode) : fitsB c endIns = true := by
  unfold fitsB chk endIns
  simp [shapeStr, belowB]
theorem idx_of_none {p : Nat → Bool} {n : Nat} (h : ∀ i, i < n → p i = false) : idxFrom p n 0 = -1 := by
  have g : ∀ m j, (∀ i, j ≤ i → i < j + m → p i = false) → idxFrom p m j = -1 := by
    intro m
    induction m with
    | zero => intro j _; rfl
    | succ m ih =>
      intro j hj
      rw [idxFrom, if_neg (by rw [hj j (Nat.le_refl _) (by omega)]; exact Bool.false_ne_true)]
      exact ih (j + 1) fun i h1 h2 => hj i (by omega) (by omega)
  exact g n 0 fun i _ h2 => h i (by omega)
theorem dead_right {c : GCode} (h : rightB c = true) (k : Nat) : rightB (deadB c k) = true := by
  have hall := (right_parts h).2.2.2.2.2.2.2
  have hi : inssBad (deadB c k) = false := by
    unfold inssBad
    rw [idx_of_none, decide_eq_false (by decide)]
    intro j hj
    rw [dead_len] at hj
    unfold insBad
    by_cases hjk : k = j
    · subst hjk
      have : (deadB c k).ins[k]? = some endIns := by simp [deadB, hj]
      rw [this]
      simp only [end_fits, Bool.not_true]
    · have : (deadB c k).ins[j]? = some c.ins[j] := by
        unfold deadB
        rw [List.getElem?_set_ne hjk, List.getElem?_eq_getElem hj]
      rw [this]
      simp only [dead_fits, hall j hj, Bool.not_true]
  have e : varsBad (deadB c k) = varsBad c := rfl
  have e2 : blocksBad (deadB c k) = blocksBad c := rfl
  unfold rightB at h ⊢
  rw [hi, e, e2, dead_len]
  simp only [Bool.and_eq_true, Bool.not_eq_true'] at h ⊢
  exact ⟨h.1, trivial⟩
theorem dead_step {c : GCode} {k : Nat} {ss : List GSpot} (h : (spotAt ss k).reached = false) (j : Nat) : stepAt (deadB c k) ss j = stepAt c ss j := by
  unfold stepAt
  by_cases hr : (spotAt ss j).reached = true
  · rw [if_pos hr, if_pos hr]
    have hjk : k ≠ j := by rintro rfl; rw [h] at hr; cases hr
    unfold oneB
    have : (deadB c k).ins[j]? = c.ins[j]? := by simp [deadB, List.getElem?_set_ne hjk]
    rw [this]
    rfl
  · rw [if_neg hr, if_neg hr]
theorem dead_walk {c : GCode} {k : Nat} : ∀ {f j : Nat} {ss : List GSpot}, (walkB c f j ss).2.2 = 0 → (spotAt (walkB c f j ss).1 k).reached = false → walkB (deadB c k) f j ss = walkB c f j ss := by
  intro f
  induction f with
  | zero => intro j ss _ _; rfl
  | succ f ih =>
    intro j ss h0 hr
    have hk : (spotAt ss k).reached = false := by
      cases e : (spotAt ss k).reached with
      | false => rfl
      | true =>
        have := (((walk_ok h0).1.2 k).1 e).1
        rw [hr] at this
        cases this
    unfold walkB at h0 hr ⊢
    rw [dead_step hk]
    by_cases hs : (stepAt c ss j).2 = 0
    · rw [if_pos hs] at h0 hr ⊢
      rw [if_pos hs]
      exact ih h0 hr
    · rw [if_neg hs, if_neg hs]
theorem dead_spots {c : GCode} {k : Nat} (h0 : (spotsB c).2.2 = 0) (hr : (spotAt (spotsB c).1 k).reached = false) : spotsB (deadB c k) = spotsB c := by
  have hR := spots_right h0
  have e : spotsB c = walkB c (c.ins.length + 1) 0 (start c.ins.length) := by unfold spotsB; rw [if_pos hR]
  have e2 : spotsB (deadB c k) = walkB (deadB c k) (c.ins.length + 1) 0 (start c.ins.length) := by unfold spotsB; rw [if_pos (dead_right hR k), dead_len]
  rw [e] at h0 hr
  rw [e2, e]
  exact dead_walk h0 hr
theorem dead_steps {c : GCode} {k : Nat} (h0 : (spotsB c).2.2 = 0) (hr : (spotAt (spotsB c).1 k).reached = false) : stepsB (deadB c k) = stepsB c := by
  have e := dead_spots h0 hr
  unfold stepsB
  rw [e, dead_len]
theorem end_wf : endIns.Wf := ⟨by decide, by decide, by decide, by decide⟩
end Go.Proofs.Ythiapebodpkamaa

