/- Which programs may run: what check.Spots, Steps and Check make of a program, in plain Lean. -/
import Derived.Test.YtiogpainajokkaaRightM
namespace Go.Proofs.Ytiogpainajokkaa
structure GSpot where
  reached : Bool
  stack : List Int
  steps : Int
def varTy (c : GCode) (a : Int) : Int := match c.vars[a.toNat]? with | some v => v.ty | none => 0
def pinTy (k n : Int) : Int := (pinsOut k).getD n.toNat 0
/-- What an instruction takes from a stack, and puts. -/
def effB (c : GCode) (i : GIns) (s : List Int) : List Int × List Int :=
  if i.op = 1 then ([], [i.t]) else if i.op = 2 then ([], [varTy c i.a]) else if i.op = 3 then ([varTy c i.a], [])
  else if 4 ≤ i.op ∧ i.op ≤ 11 then ([i.t, i.t], [i.t]) else if i.op = 12 then ([i.t], [i.t]) else if i.op = 13 ∨ i.op = 14 then ([i.t, i.t], [1])
  else if i.op = 15 then ([i.a % 256], [i.t]) else if i.op = 16 then ([s.getLastD 0], [s.getLastD 0, s.getLastD 0]) else if i.op = 17 then ([s.getLastD 0], [])
  else if i.op = 19 then ([1], []) else if i.op = 20 then (pinsIn (c.blocks.getD i.a.toNat 0), []) else if i.op = 21 then ([], [pinTy (c.blocks.getD i.a.toNat 0) i.n]) else ([], [])
def jumpsB (i : GIns) : Bool := decide (i.op = 18) || decide (i.op = 19)
def staysB (i : GIns) : Bool := decide (i.op ≠ 18) && decide (i.op ≠ 22)
def spotAt (ss : List GSpot) (k : Nat) : GSpot := ss.getD k ⟨false, [], 0⟩
/-- May one go on at a place with this stack? -/
def goesOk (ss : List GSpot) (to : Nat) (st : List Int) : Bool := !(spotAt ss to).reached || decide ((spotAt ss to).stack = st)
def goesTo (ss : List GSpot) (to : Nat) (st : List Int) (n : Int) : List GSpot := ss.set to ⟨true, st, max (spotAt ss to).steps n⟩
def takesOk (s t : List Int) : Bool := decide (t.length ≤ s.length) && decide (s.drop (s.length - t.length) = t)
def nextB (s : List Int) (e : List Int × List Int) : List Int := s.take (s.length - e.1.length) ++ e.2
def oneIns (i : GIns) (s : GSpot) (at_ : Nat) (e : List Int × List Int) (ss : List GSpot) : List GSpot × Int :=
  if (jumpsB i && decide (i.a ≤ at_)) = true then (ss, 141)
  else if takesOk s.stack e.1 = false then (ss, 140)
  else if (decide (64 < (nextB s.stack e).length) || (decide (i.op = 22) && decide (0 < (nextB s.stack e).length))) = true then (ss, 140)
  else if (jumpsB i && !goesOk ss i.a.toNat (nextB s.stack e)) = true then (ss, 140)
  else
    let s1 := if jumpsB i = true then goesTo ss i.a.toNat (nextB s.stack e) (s.steps + 1) else ss
    if staysB i = true then (if goesOk s1 (at_ + 1) (nextB s.stack e) = true then (goesTo s1 (at_ + 1) (nextB s.stack e) (s.steps + 1), 0) else (s1, 140)) else (s1, 0)
def oneB (c : GCode) (ss : List GSpot) (at_ : Nat) : List GSpot × Int :=
  match c.ins[at_]? with
  | none => (ss, if 0 < (spotAt ss at_).stack.length then 140 else 0)
  | some i => oneIns i (spotAt ss at_) at_ (effB c i (spotAt ss at_).stack) ss
def stepAt (c : GCode) (ss : List GSpot) (at_ : Nat) : List GSpot × Int := if (spotAt ss at_).reached = true then oneB c ss at_ else (ss, 0)
def walkB (c : GCode) : Nat → Nat → List GSpot → List GSpot × Nat × Int
  | 0, _, ss => (ss, 0, 0)
  | f + 1, at_, ss => if (stepAt c ss at_).2 = 0 then walkB c f (at_ + 1) (stepAt c ss at_).1 else ([], at_, (stepAt c ss at_).2)
def start (n : Nat) : List GSpot := ⟨true, [], 0⟩ :: List.replicate n ⟨false, [], 0⟩
def spotsB (c : GCode) : List GSpot × Nat × Int := if rightB c = true then walkB c (c.ins.length + 1) 0 (start c.ins.length) else ([], 0, 130)
def spotCost (n : Nat) (j : Nat) (s : GSpot) : Int := if (s.reached && decide (j < n)) = true then s.steps + 1 else s.steps
def mostB (n : Nat) : Nat → List GSpot → Int → Int
  | _, [], m => m
  | j, s :: l, m => mostB n (j + 1) l (max m (spotCost n j s))
def stepsB (c : GCode) : Int := if (spotsB c).2.2 = 0 then mostB c.ins.length 0 (spotsB c).1 0 else 0
def checkB (c : GCode) (budget : Int) : Int := if (spotsB c).2.2 = 0 then (if budget < stepsB c then 142 else 0) else (spotsB c).2.2
end Go.Proofs.Ytiogpainajokkaa

namespace Go.Proofs.Ytiogpainajokkaa
theorem spotAt_set {ss : List GSpot} {t j : Nat} {s : GSpot} (h : t < ss.length) : spotAt (ss.set t s) j = if j = t then s else spotAt ss j := by
  unfold spotAt
  rw [List.getD_eq_getElem?_getD, List.getD_eq_getElem?_getD, List.getElem?_set]
  by_cases e : t = j
  · subst e; simp [h]
  · rw [if_neg e, if_neg (fun h => e h.symm)]
theorem spotAt_set_ne {ss : List GSpot} {t j : Nat} {s : GSpot} (h : j ≠ t) : spotAt (ss.set t s) j = spotAt ss j := by
  unfold spotAt
  rw [List.getD_eq_getElem?_getD, List.getD_eq_getElem?_getD, List.getElem?_set, if_neg (fun e => h e.symm)]
theorem goesTo_len (ss : List GSpot) (t : Nat) (st : List Int) (n : Int) : (goesTo ss t st n).length = ss.length := by simp [goesTo]
/-- What is told of a place may only grow. -/
def Grew (ss ss' : List GSpot) : Prop := ss'.length = ss.length ∧ ∀ j, ((spotAt ss j).reached = true → (spotAt ss' j).reached = true ∧ (spotAt ss' j).stack = (spotAt ss j).stack) ∧ (spotAt ss j).steps ≤ (spotAt ss' j).steps
theorem Grew.refl (ss : List GSpot) : Grew ss ss := ⟨rfl, fun _ => ⟨fun h => ⟨h, rfl⟩, Int.le_refl _⟩⟩
theorem Grew.trans {a b c : List GSpot} (h : Grew a b) (k : Grew b c) : Grew a c := by
  refine ⟨k.1.trans h.1, fun j => ⟨fun hr => ?_, Int.le_trans (h.2 j).2 (k.2 j).2⟩⟩
  obtain ⟨h1, h2⟩ := (h.2 j).1 hr
  obtain ⟨k1, k2⟩ := (k.2 j).1 h1
  exact ⟨k1, k2.trans h2⟩
theorem goesTo_at {ss : List GSpot} {t : Nat} {st : List Int} {n : Int} (h : t < ss.length) : spotAt (goesTo ss t st n) t = ⟨true, st, max (spotAt ss t).steps n⟩ := by
  unfold goesTo; rw [spotAt_set h, if_pos rfl]
theorem goesTo_ne {ss : List GSpot} {t j : Nat} {st : List Int} {n : Int} (h : j ≠ t) : spotAt (goesTo ss t st n) j = spotAt ss j := spotAt_set_ne h
theorem goesTo_grew {ss : List GSpot} {t : Nat} {st : List Int} {n : Int} (hok : goesOk ss t st = true) : Grew ss (goesTo ss t st n) := by
  refine ⟨goesTo_len _ _ _ _, fun j => ?_⟩
  by_cases hj : j = t
  · subst hj
    by_cases hl : j < ss.length
    · rw [goesTo_at hl]
      refine ⟨fun hr => ⟨rfl, ?_⟩, by show _ ≤ max _ _; omega⟩
      unfold goesOk at hok
      rw [hr] at hok
      simpa using (by simpa using hok : (spotAt ss j).stack = st).symm
    · have e : goesTo ss j st n = ss := by unfold goesTo; exact List.set_eq_of_length_le (by omega)
      rw [e]; exact ⟨fun h => ⟨h, rfl⟩, Int.le_refl _⟩
  · rw [goesTo_ne hj]; exact ⟨fun h => ⟨h, rfl⟩, Int.le_refl _⟩
/-- What a place that was gone over without fault comes to. -/
structure OneOk (i : GIns) (s : GSpot) (k : Nat) (e : List Int × List Int) (ss ss' : List GSpot) : Prop where
  fwd : jumpsB i = true → (k : Int) < i.a
  takes : takesOk s.stack e.1 = true
  room : (nextB s.stack e).length ≤ 64
  ends : i.op = 22 → nextB s.stack e = []
  ok1 : jumpsB i = true → goesOk ss i.a.toNat (nextB s.stack e) = true
  ok2 : staysB i = true → goesOk (if jumpsB i = true then goesTo ss i.a.toNat (nextB s.stack e) (s.steps + 1) else ss) (k + 1) (nextB s.stack e) = true
  out : ss' = if staysB i = true then goesTo (if jumpsB i = true then goesTo ss i.a.toNat (nextB s.stack e) (s.steps + 1) else ss) (k + 1) (nextB s.stack e) (s.steps + 1) else (if jumpsB i = true then goesTo ss i.a.toNat (nextB s.stack e) (s.steps + 1) else ss)
theorem oneIns_ok {i : GIns} {s : GSpot} {k : Nat} {e : List Int × List Int} {ss : List GSpot} (h : (oneIns i s k e ss).2 = 0) : OneOk i s k e ss (oneIns i s k e ss).1 := by
  by_cases h1 : (jumpsB i && decide (i.a ≤ k)) = true
  · rw [oneIns, if_pos h1] at h; cases h
  by_cases h2 : takesOk s.stack e.1 = false
  · rw [oneIns, if_neg h1, if_pos h2] at h; cases h
  by_cases h3 : (decide (64 < (nextB s.stack e).length) || (decide (i.op = 22) && decide (0 < (nextB s.stack e).length))) = true
  · rw [oneIns, if_neg h1, if_neg h2, if_pos h3] at h; cases h
  by_cases h4 : (jumpsB i && !goesOk ss i.a.toNat (nextB s.stack e)) = true
  · rw [oneIns, if_neg h1, if_neg h2, if_neg h3, if_pos h4] at h; cases h
  rw [oneIns, if_neg h1, if_neg h2, if_neg h3, if_neg h4] at h ⊢
  simp only [Bool.and_eq_true, decide_eq_true_eq, not_and, Bool.or_eq_true, not_or, Bool.not_eq_true', Bool.not_eq_false] at h1 h2 h3 h4
  have hr : (nextB s.stack e).length ≤ 64 := by omega
  have he : i.op = 22 → nextB s.stack e = [] := fun ho => List.eq_nil_of_length_eq_zero (by have := h3.2 ho; omega)
  have hf : jumpsB i = true → (k : Int) < i.a := fun hj => by have := h1 hj; omega
  by_cases h5 : staysB i = true
  · simp only [if_pos h5] at h ⊢
    by_cases h6 : goesOk (if jumpsB i = true then goesTo ss i.a.toNat (nextB s.stack e) (s.steps + 1) else ss) (k + 1) (nextB s.stack e) = true
    · simp only [if_pos h6]
      exact ⟨hf, h2, hr, he, fun hj => by simpa using h4 hj, fun _ => h6, by rw [if_pos h5]⟩
    · simp only [if_neg h6] at h; cases h
  · simp only [if_neg h5]
    exact ⟨hf, h2, hr, he, fun hj => by simpa using h4 hj, fun hs => absurd hs h5, by rw [if_neg h5]⟩
theorem OneOk.mid {i : GIns} {s : GSpot} {k : Nat} {e : List Int × List Int} {ss ss' : List GSpot} (h : OneOk i s k e ss ss') : Grew ss (if jumpsB i = true then goesTo ss i.a.toNat (nextB s.stack e) (s.steps + 1) else ss) := by
  by_cases hj : jumpsB i = true
  · rw [if_pos hj]; exact goesTo_grew (h.ok1 hj)
  · rw [if_neg hj]; exact Grew.refl _
theorem OneOk.grew {i : GIns} {s : GSpot} {k : Nat} {e : List Int × List Int} {ss ss' : List GSpot} (h : OneOk i s k e ss ss') : Grew ss ss' := by
  rw [h.out]
  by_cases hs : staysB i = true
  · rw [if_pos hs]; exact h.mid.trans (goesTo_grew (h.ok2 hs))
  · rw [if_neg hs]; exact h.mid
/-- Places that lie behind are as they were. -/
theorem OneOk.past {i : GIns} {s : GSpot} {k : Nat} {e : List Int × List Int} {ss ss' : List GSpot} (h : OneOk i s k e ss ss') {j : Nat} (hj : j ≤ k) : spotAt ss' j = spotAt ss j := by
  have hm : spotAt (if jumpsB i = true then goesTo ss i.a.toNat (nextB s.stack e) (s.steps + 1) else ss) j = spotAt ss j := by
    by_cases hj2 : jumpsB i = true
    · rw [if_pos hj2]; exact goesTo_ne (by have := h.fwd hj2; omega)
    · rw [if_neg hj2]
  rw [h.out]
  by_cases hs : staysB i = true
  · rw [if_pos hs, goesTo_ne (by omega)]; exact hm
  · rw [if_neg hs]; exact hm
theorem OneOk.jump {i : GIns} {s : GSpot} {k : Nat} {e : List Int × List Int} {ss ss' : List GSpot} (h : OneOk i s k e ss ss') (hj : jumpsB i = true) (hl : i.a.toNat < ss.length) : (spotAt ss' i.a.toNat).reached = true ∧ (spotAt ss' i.a.toNat).stack = nextB s.stack e ∧ s.steps + 1 ≤ (spotAt ss' i.a.toNat).steps := by
  have hg : Grew (goesTo ss i.a.toNat (nextB s.stack e) (s.steps + 1)) ss' := by
    rw [h.out]
    by_cases hs : staysB i = true
    · have := h.ok2 hs
      rw [if_pos hj] at this
      rw [if_pos hs, if_pos hj]; exact goesTo_grew this
    · rw [if_neg hs, if_pos hj]; exact Grew.refl _
  obtain ⟨g1, g2⟩ := hg.2 i.a.toNat
  rw [goesTo_at hl] at g1 g2
  obtain ⟨g3, g4⟩ := g1 rfl
  refine ⟨g3, g4, ?_⟩
  have : s.steps + 1 ≤ max (spotAt ss i.a.toNat).steps (s.steps + 1) := by omega
  exact Int.le_trans this g2
theorem OneOk.next {i : GIns} {s : GSpot} {k : Nat} {e : List Int × List Int} {ss ss' : List GSpot} (h : OneOk i s k e ss ss') (hs : staysB i = true) (hl : k + 1 < ss.length) : (spotAt ss' (k + 1)).reached = true ∧ (spotAt ss' (k + 1)).stack = nextB s.stack e ∧ s.steps + 1 ≤ (spotAt ss' (k + 1)).steps := by
  rw [h.out, if_pos hs, goesTo_at (by
    by_cases hj : jumpsB i = true
    · rw [if_pos hj, goesTo_len]; exact hl
    · rw [if_neg hj]; exact hl)]
  exact ⟨rfl, rfl, by show _ ≤ max _ _; omega⟩
theorem stepAt_grew {c : GCode} {ss : List GSpot} {k : Nat} (h : (stepAt c ss k).2 = 0) : Grew ss (stepAt c ss k).1 ∧ ∀ j, j ≤ k → spotAt (stepAt c ss k).1 j = spotAt ss j := by
  unfold stepAt at h ⊢
  by_cases hr : (spotAt ss k).reached = true
  · rw [if_pos hr] at h ⊢
    unfold oneB at h ⊢
    cases hi : c.ins[k]? with
    | none => exact ⟨Grew.refl _, fun _ _ => rfl⟩
    | some i =>
      rw [hi] at h
      have := oneIns_ok h
      exact ⟨this.grew, fun j hj => this.past hj⟩
  · rw [if_neg hr]; exact ⟨Grew.refl _, fun _ _ => rfl⟩
/-- A walk without fault, place by place. -/
theorem walk_ok {c : GCode} : ∀ {f k : Nat} {ss : List GSpot}, (walkB c f k ss).2.2 = 0 → Grew ss (walkB c f k ss).1 ∧ (∀ j, j < k → spotAt (walkB c f k ss).1 j = spotAt ss j) ∧
    ∀ j, k ≤ j → j < k + f → ∃ sj, Grew ss sj ∧ (stepAt c sj j).2 = 0 ∧ Grew (stepAt c sj j).1 (walkB c f k ss).1 ∧ spotAt sj j = spotAt (walkB c f k ss).1 j := by
  intro f
  induction f with
  | zero => intro k ss _; exact ⟨Grew.refl _, fun _ _ => rfl, fun j h1 h2 => by omega⟩
  | succ f ih =>
    intro k ss h
    unfold walkB at h ⊢
    by_cases hs : (stepAt c ss k).2 = 0
    · rw [if_pos hs] at h ⊢
      obtain ⟨g1, g2, g3⟩ := ih h
      obtain ⟨s1, s2⟩ := stepAt_grew hs
      refine ⟨s1.trans g1, fun j hj => (g2 j (by omega)).trans (s2 j (by omega)), fun j h1 h2 => ?_⟩
      by_cases hj : j = k
      · subst hj
        exact ⟨ss, Grew.refl _, hs, g1, ((g2 j (by omega)).trans (s2 j (Nat.le_refl _))).symm⟩
      · obtain ⟨sj, a1, a2, a3, a4⟩ := g3 j (by omega) (by omega)
        exact ⟨sj, s1.trans a1, a2, a3, a4⟩
    · rw [if_neg hs] at h; exact absurd h hs
theorem walk_err {c : GCode} : ∀ {f k : Nat} {ss : List GSpot}, (walkB c f k ss).2.2 ≠ 0 → (walkB c f k ss).1 = [] := by
  intro f
  induction f with
  | zero => intro k ss h; exact absurd rfl h
  | succ f ih =>
    intro k ss h
    unfold walkB at h ⊢
    by_cases hs : (stepAt c ss k).2 = 0
    · rw [if_pos hs] at h ⊢; exact ih h
    · rw [if_neg hs]
theorem most_le (n : Nat) : ∀ (l : List GSpot) (j : Nat) (m : Int), m ≤ mostB n j l m ∧ ∀ i (h : i < l.length), spotCost n (j + i) l[i] ≤ mostB n j l m := by
  intro l
  induction l with
  | nil => intro j m; exact ⟨Int.le_refl _, fun i h => absurd h (by simp)⟩
  | cons s l ih =>
    intro j m
    obtain ⟨h1, h2⟩ := ih (j + 1) (max m (spotCost n j s))
    refine ⟨Int.le_trans (by omega) h1, fun i hi => ?_⟩
    cases i with
    | zero => exact Int.le_trans (by simp only [Nat.add_zero, List.getElem_cons_zero]; omega) h1
    | succ i =>
      have := h2 i (by simpa using hi)
      rw [show j + (i + 1) = j + 1 + i by omega]
      exact this
end Go.Proofs.Ytiogpainajokkaa

