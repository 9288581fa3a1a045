/- CheckMore: the plain laws. Two ends put behind a program change nothing ahead of them. -/
import Derived.Test.YthiapebodpkamaaDeadP
namespace Go.Proofs.Ythiapebodpkamaa
def bareSpot : GSpot := ⟨false, [], 0⟩
def more2 : List GSpot := [bareSpot, bareSpot]
def moreB (c : GCode) : GCode := { c with ins := c.ins ++ [endIns, endIns] }
theorem more_len (c : GCode) : (moreB c).ins.length = c.ins.length + 2 := by simp [moreB]
theorem more_at (ss : List GSpot) (j : Nat) : spotAt (ss ++ more2) j = spotAt ss j := by
  unfold spotAt
  by_cases h : j < ss.length
  · simp [List.getD_eq_getElem?_getD, List.getElem?_append_left h]
  · rw [List.getD_eq_getElem?_getD, List.getD_eq_getElem?_getD, List.getElem?_append_right (by omega), List.getElem?_eq_none (by omega : ss.length ≤ j)]
    match j - ss.length with
    | 0 => rfl
    | 1 => rfl
    | n + 2 => rfl
theorem more_goesOk (ss : List GSpot) (t : Nat) (st : List Int) : goesOk (ss ++ more2) t st = goesOk ss t st := by
  unfold goesOk
  rw [more_at]
theorem more_goesTo {ss : List GSpot} {t : Nat} (h : t < ss.length) (st : List Int) (n : Int) : goesTo (ss ++ more2) t st n = goesTo ss t st n ++ more2 := by
  unfold goesTo
  rw [more_at, List.set_append_left _ _ h]
theorem more_goesLen (ss : List GSpot) (t : Nat) (st : List Int) (n : Int) : (goesTo ss t st n).length = ss.length := List.length_set
theorem more_one {i : GIns} {s : GSpot} {k : Nat} {e : List Int × List Int} {ss : List GSpot} (hk : k + 1 < ss.length) (hj : jumpsB i = true → i.a.toNat < ss.length) :
    oneIns i s k e (ss ++ more2) = ((oneIns i s k e ss).1 ++ more2, (oneIns i s k e ss).2) := by
  unfold oneIns
  simp only [more_goesOk]
  split
  · rfl
  split
  · rfl
  split
  · rfl
  split
  · rfl
  have e1 : (if jumpsB i = true then goesTo (ss ++ more2) i.a.toNat (nextB s.stack e) (s.steps + 1) else ss ++ more2) = (if jumpsB i = true then goesTo ss i.a.toNat (nextB s.stack e) (s.steps + 1) else ss) ++ more2 := by
    split
    · rename_i h; exact more_goesTo (hj h) _ _
    · rfl
  have e2 : (if jumpsB i = true then goesTo ss i.a.toNat (nextB s.stack e) (s.steps + 1) else ss).length = ss.length := by
    split
    · exact more_goesLen _ _ _ _
    · rfl
  rw [e1]
  generalize (if jumpsB i = true then goesTo ss i.a.toNat (nextB s.stack e) (s.steps + 1) else ss) = s1 at e2 ⊢
  simp only [more_goesOk]
  split
  · split
    · rw [more_goesTo (by omega)]
    · rfl
  · rfl
theorem more_step {c : GCode} (hR : rightB c = true) {j : Nat} (hj : j < c.ins.length) {ss : List GSpot} (hl : ss.length = c.ins.length + 1) : stepAt (moreB c) (ss ++ more2) j = ((stepAt c ss j).1 ++ more2, (stepAt c ss j).2) := by
  unfold stepAt
  rw [more_at]
  by_cases hr : (spotAt ss j).reached = true
  · rw [if_pos hr, if_pos hr]
    unfold oneB
    have e1 : (moreB c).ins[j]? = some c.ins[j] := by
      unfold moreB
      rw [List.getElem?_append_left hj, List.getElem?_eq_getElem hj]
    rw [e1, List.getElem?_eq_getElem hj, more_at]
    have hf := (ins_ok hR) j hj
    exact more_one (by omega) fun h => by
      have ha := fit_jump hf.2 (by simpa [jumpsB] using h)
      omega
  · rw [if_neg hr, if_neg hr]
theorem more_end {c : GCode} {ss : List GSpot} (h : (stepAt c ss c.ins.length).2 = 0) : stepAt (moreB c) (ss ++ more2) c.ins.length = (ss ++ more2, 0) ∧ (stepAt c ss c.ins.length).1 = ss := by
  unfold stepAt at h ⊢
  rw [more_at]
  by_cases hr : (spotAt ss c.ins.length).reached = true
  · rw [if_pos hr] at h ⊢
    rw [if_pos hr]
    unfold oneB at h ⊢
    have e1 : (moreB c).ins[c.ins.length]? = some endIns := by
      unfold moreB
      rw [List.getElem?_append_right (Nat.le_refl _)]
      simp
    rw [List.getElem?_eq_none (Nat.le_refl _)] at h ⊢
    rw [e1, more_at]
    have hs : (spotAt ss c.ins.length).stack = [] := by
      cases hst : (spotAt ss c.ins.length).stack with
      | nil => rfl
      | cons a l => simp [hst] at h
    refine ⟨?_, rfl⟩
    simp [oneIns, effB, endIns, jumpsB, staysB, takesOk, nextB, hs]
  · rw [if_neg hr, if_neg hr]
    exact ⟨rfl, rfl⟩
theorem more_far {c : GCode} {ss : List GSpot} {j : Nat} (hj : ss.length ≤ j) : stepAt (moreB c) (ss ++ more2) j = (ss ++ more2, 0) := by
  unfold stepAt
  rw [more_at]
  have : (spotAt ss j).reached = false := by
    unfold spotAt
    rw [List.getD_eq_getElem?_getD, List.getElem?_eq_none hj]
    rfl
  rw [this, if_neg Bool.false_ne_true]
theorem more_walk {c : GCode} (hR : rightB c = true) : ∀ {f j : Nat} {ss : List GSpot}, j + f = c.ins.length + 1 → ss.length = c.ins.length + 1 → (walkB c f j ss).2.2 = 0 → walkB (moreB c) (f + 2) j (ss ++ more2) = ((walkB c f j ss).1 ++ more2, 0, 0) := by
  intro f
  induction f with
  | zero =>
    intro j ss hj hl _
    have e1 : stepAt (moreB c) (ss ++ more2) j = (ss ++ more2, 0) := more_far (by omega)
    have e2 : stepAt (moreB c) (ss ++ more2) (j + 1) = (ss ++ more2, 0) := more_far (by omega)
    simp [walkB, e1, e2]
  | succ f ih =>
    intro j ss hj hl h0
    have w1 : walkB c (f + 1) j ss = if (stepAt c ss j).2 = 0 then walkB c f (j + 1) (stepAt c ss j).1 else ([], j, (stepAt c ss j).2) := rfl
    have w2 : walkB (moreB c) (f + 1 + 2) j (ss ++ more2) = if (stepAt (moreB c) (ss ++ more2) j).2 = 0 then walkB (moreB c) (f + 2) (j + 1) (stepAt (moreB c) (ss ++ more2) j).1 else ([], j, (stepAt (moreB c) (ss ++ more2) j).2) := rfl
    rw [w1] at h0 ⊢
    rw [w2]
    by_cases hs : (stepAt c ss j).2 = 0
    · rw [if_pos hs] at h0 ⊢
      have g := stepAt_grew hs
      have hl2 : (stepAt c ss j).1.length = c.ins.length + 1 := by rw [g.1.1]; exact hl
      have e : stepAt (moreB c) (ss ++ more2) j = ((stepAt c ss j).1 ++ more2, 0) := by
        by_cases hjn : j < c.ins.length
        · rw [more_step hR hjn hl, hs]
        · obtain rfl : j = c.ins.length := by omega
          obtain ⟨a, b⟩ := more_end hs
          rw [a, b]
      rw [e, if_pos rfl]
      exact ih (by omega) hl2 h0
    · rw [if_neg hs] at h0
      exact absurd h0 hs
theorem below_more {a b n : Int} (h : belowB a n = true) (hab : a ≤ b) : belowB b n = true := by
  simp only [belowB, Bool.and_eq_true, decide_eq_true_eq] at h ⊢
  omega
theorem more_chk {c : GCode} {i : GIns} {ch : UInt8} {n : Int} (h : chk c i ch n = true) : chk (moreB c) i ch n = true := by
  unfold chk at h ⊢
  have e1 : (moreB c).vars = c.vars := rfl
  have e2 : (moreB c).blocks = c.blocks := rfl
  rw [e1, e2, more_len]
  by_cases hch : ch = 106
  · subst hch
    simp at h ⊢
    exact below_more h (by omega)
  · simp only [if_neg hch] at h ⊢
    exact h
theorem more_fits {c : GCode} {i : GIns} (h : fitsB c i = true) : fitsB (moreB c) i = true := by
  unfold fitsB at h ⊢
  split at h
  · simp only [Bool.and_eq_true] at h ⊢
    exact ⟨⟨more_chk h.1.1, more_chk h.1.2⟩, more_chk h.2⟩
  · cases h
theorem more_right {c : GCode} (h : rightB c = true) (hn : c.ins.length + 2 ≤ 2000) : rightB (moreB c) = true := by
  have hall := (right_parts h).2.2.2.2.2.2.2
  have hi : inssBad (moreB c) = false := by
    unfold inssBad
    rw [idx_of_none, decide_eq_false (by decide)]
    intro j hj
    rw [more_len] at hj
    unfold insBad
    by_cases hjn : j < c.ins.length
    · have : (moreB c).ins[j]? = some c.ins[j] := by
        unfold moreB
        rw [List.getElem?_append_left hjn, List.getElem?_eq_getElem hjn]
      rw [this]
      simp only [more_fits (hall j hjn), Bool.not_true]
    · have : (moreB c).ins[j]? = some endIns := by
        unfold moreB
        rw [List.getElem?_append_right (by omega)]
        obtain h | h : j - c.ins.length = 0 ∨ j - c.ins.length = 1 := by omega
        all_goals rw [h]; rfl
      rw [this]
      simp only [end_fits, Bool.not_true]
  have e : varsBad (moreB c) = varsBad c := rfl
  have e2 : blocksBad (moreB c) = blocksBad c := rfl
  unfold rightB at h ⊢
  rw [hi, e, e2, more_len]
  simp only [Bool.and_eq_true, Bool.not_eq_true', decide_eq_true_eq] at h ⊢
  obtain ⟨⟨⟨⟨⟨⟨⟨h0, h1⟩, h2⟩, h3⟩, h4⟩, h5⟩, h6⟩, h7⟩ := h
  exact ⟨⟨⟨⟨⟨⟨⟨h0, h1⟩, h2⟩, by omega⟩, hn⟩, h5⟩, h6⟩, trivial⟩
theorem more_start (n : Nat) : start (n + 2) = start n ++ more2 := by
  unfold start more2 bareSpot
  rw [List.cons_append, List.replicate_succ', List.replicate_succ']
  simp
theorem start_len (n : Nat) : (start n).length = n + 1 := by simp [start]
theorem more_spots {c : GCode} (h0 : (spotsB c).2.2 = 0) (hn : c.ins.length + 2 ≤ 2000) : spotsB (moreB c) = ((spotsB c).1 ++ more2, 0, 0) := by
  have hR := spots_right h0
  have e : spotsB c = walkB c (c.ins.length + 1) 0 (start c.ins.length) := by unfold spotsB; rw [if_pos hR]
  have e2 : spotsB (moreB c) = walkB (moreB c) (c.ins.length + 1 + 2) 0 (start c.ins.length ++ more2) := by
    unfold spotsB
    rw [if_pos (more_right hR hn), more_len, more_start]
  rw [e] at h0
  rw [e2, e]
  exact more_walk hR (by omega) (start_len _) h0
end Go.Proofs.Ythiapebodpkamaa

