/- CheckDead: the plain laws. What stands at a place that nothing comes to is not looked at. -/
import Derived.Test.YthiapebodpkamaaJoinsP
namespace Go.Proofs.Ythiapebodpkamaa
def endIns : GIns := ⟨22, 0, 0, 0⟩
def deadB (c : GCode) (k : Nat) : GCode := { c with ins := c.ins.set k endIns }
theorem dead_len (c : GCode) (k : Nat) : (deadB c k).ins.length = c.ins.length := List.length_set
theorem dead_fits (c : GCode) (k : Nat) (i : GIns) : fitsB (deadB c k) i = fitsB c i := by
  have e : ∀ ch n, chk (deadB c k) i ch n = chk c i ch n := by
    intro ch n
    unfold chk
    simp only [dead_len]
    rfl
  unfold fitsB
  simp only [e]
theorem end_fits (c : GCode) : fitsB c endIns = true := by
  unfold fitsB chk endIns
  simp [shapeStr, belowB]
theorem idx_of_none {p : Nat → Bool} {n : Nat} (h : ∀ i, i < n → p i = false) : idxFrom p n 0 = -1 := by
  have g : ∀ m j, (∀ i, j ≤ i → i < j + m → p i = false) → idxFrom p m j = -1 := by
    intro m
    induction m with
    | zero => intro j _; rfl
    | succ m ih =>
      intro j hj
      rw [idxFrom, if_neg (by rw [hj j (Nat.le_refl _) (by omega)]; exact Bool.false_ne_true)]
      exact ih (j + 1) fun i h1 h2 => hj i (by omega) (by omega)
  exact g n 0 fun i _ h2 => h i (by omega)
theorem dead_right {c : GCode} (h : rightB c = true) (k : Nat) : rightB (deadB c k) = true := by
  have hall := (right_parts h).2.2.2.2.2.2.2
  have hi : inssBad (deadB c k) = false := by
    unfold inssBad
    rw [idx_of_none, decide_eq_false (by decide)]
    intro j hj
    rw [dead_len] at hj
    unfold insBad
    by_cases hjk : k = j
    · subst hjk
      have : (deadB c k).ins[k]? = some endIns := by simp [deadB, hj]
      rw [this]
      simp only [end_fits, Bool.not_true]
    · have : (deadB c k).ins[j]? = some c.ins[j] := by
        unfold deadB
        rw [List.getElem?_set_ne hjk, List.getElem?_eq_getElem hj]
      rw [this]
      simp only [dead_fits, hall j hj, Bool.not_true]
  have e : varsBad (deadB c k) = varsBad c := rfl
  have e2 : blocksBad (deadB c k) = blocksBad c := rfl
  unfold rightB at h ⊢
  rw [hi, e, e2, dead_len]
  simp only [Bool.and_eq_true, Bool.not_eq_true'] at h ⊢
  exact ⟨h.1, trivial⟩
theorem dead_step {c : GCode} {k : Nat} {ss : List GSpot} (h : (spotAt ss k).reached = false) (j : Nat) : stepAt (deadB c k) ss j = stepAt c ss j := by
  unfold stepAt
  by_cases hr : (spotAt ss j).reached = true
  · rw [if_pos hr, if_pos hr]
    have hjk : k ≠ j := by rintro rfl; rw [h] at hr; cases hr
    unfold oneB
    have : (deadB c k).ins[j]? = c.ins[j]? := by simp [deadB, List.getElem?_set_ne hjk]
    rw [this]
    rfl
  · rw [if_neg hr, if_neg hr]
theorem dead_walk {c : GCode} {k : Nat} : ∀ {f j : Nat} {ss : List GSpot}, (walkB c f j ss).2.2 = 0 → (spotAt (walkB c f j ss).1 k).reached = false → walkB (deadB c k) f j ss = walkB c f j ss := by
  intro f
  induction f with
  | zero => intro j ss _ _; rfl
  | succ f ih =>
    intro j ss h0 hr
    have hk : (spotAt ss k).reached = false := by
      cases e : (spotAt ss k).reached with
      | false => rfl
      | true =>
        have := (((walk_ok h0).1.2 k).1 e).1
        rw [hr] at this
        cases this
    unfold walkB at h0 hr ⊢
    rw [dead_step hk]
    by_cases hs : (stepAt c ss j).2 = 0
    · rw [if_pos hs] at h0 hr ⊢
      rw [if_pos hs]
      exact ih h0 hr
    · rw [if_neg hs, if_neg hs]
theorem dead_spots {c : GCode} {k : Nat} (h0 : (spotsB c).2.2 = 0) (hr : (spotAt (spotsB c).1 k).reached = false) : spotsB (deadB c k) = spotsB c := by
  have hR := spots_right h0
  have e : spotsB c = walkB c (c.ins.length + 1) 0 (start c.ins.length) := by unfold spotsB; rw [if_pos hR]
  have e2 : spotsB (deadB c k) = walkB (deadB c k) (c.ins.length + 1) 0 (start c.ins.length) := by unfold spotsB; rw [if_pos (dead_right hR k), dead_len]
  rw [e] at h0 hr
  rw [e2, e]
  exact dead_walk h0 hr
theorem dead_steps {c : GCode} {k : Nat} (h0 : (spotsB c).2.2 = 0) (hr : (spotAt (spotsB c).1 k).reached = false) : stepsB (deadB c k) = stepsB c := by
  have e := dead_spots h0 hr
  unfold stepsB
  rw [e, dead_len]
theorem end_wf : endIns.Wf := ⟨by decide, by decide, by decide, by decide⟩
end Go.Proofs.Ythiapebodpkamaa

