/- Scans in plain Lean: states, a machine, what a scan comes to; a program that passes never goes wrong. -/
import Derived.Test.YtiogpainajokkaaSpotsM
import Derived.Test.YtiogpainajokkaaOutM
import Derived.Test.YtiogpainajokkaaMchM
namespace Go.Proofs.Ytiogpainajokkaa
open Go.RowKit
def firstB (c : GCode) : GPlant := ⟨c.vars.map (·.first), c.blocks.map newB⟩
def okBlks : List Int → List GBlock → Bool
  | [], [] => true
  | k :: ks, b :: bs => decide (b.kind = k) && rightBlk b && okBlks ks bs
  | _, _ => false
def tysOf (c : GCode) : List Int := c.vars.map (·.ty)
/-- Is a state one of a program? -/
def fitsS (c : GCode) (s : GPlant) : Bool := okIns (tysOf c) s.vars && okBlks c.blocks s.blocks
/-- The values of a class. -/
def ofB (k : Int) : List GVar → List Int → List Int
  | v :: vs, x :: xs => if v.cls = k then x :: ofB k vs xs else ofB k vs xs
  | _, _ => []
/-- Values into the variables of a class. -/
def putB (k : Int) : List GVar → List Int → List Int → Option (List Int)
  | v :: vs, x :: xs, l =>
    if v.cls = k then
      match l with
      | y :: ys => if inR v.ty y = true then (putB k vs xs ys).map (y :: ·) else none
      | [] => none
    else (putB k vs xs l).map (x :: ·)
  | _, _, l => if l = [] then some [] else none
def blkAt (s : GPlant) (a : Int) : GBlock := s.blocks.getD a.toNat (newB 0)
/-- An instruction is done. -/
def mStep (c : GCode) (now : Int) (m : GMach) (i : GIns) : GMach :=
  if joinsOp i.op = true then ⟨m.s, m.st.dropLast.dropLast ++ [signB i.op i.t (topI m.st.dropLast) (topI m.st)], m.at_ + 1, m.steps + 1⟩
  else if i.op = 1 then ⟨m.s, m.st ++ [i.n], m.at_ + 1, m.steps + 1⟩
  else if i.op = 2 then ⟨m.s, m.st ++ [m.s.vars.getD i.a.toNat 0], m.at_ + 1, m.steps + 1⟩
  else if i.op = 3 then ⟨⟨m.s.vars.set i.a.toNat (topI m.st), m.s.blocks⟩, m.st.dropLast, m.at_ + 1, m.steps + 1⟩
  else if i.op = 12 then ⟨m.s, m.st.dropLast ++ [notI i.t (topI m.st)], m.at_ + 1, m.steps + 1⟩
  else if i.op = 15 then ⟨m.s, m.st.dropLast ++ [wrapOf i.t (topI m.st)], m.at_ + 1, m.steps + 1⟩
  else if i.op = 16 then ⟨m.s, m.st ++ [topI m.st], m.at_ + 1, m.steps + 1⟩
  else if i.op = 17 then ⟨m.s, m.st.dropLast, m.at_ + 1, m.steps + 1⟩
  else if i.op = 18 then ⟨m.s, m.st, i.a.toNat, m.steps + 1⟩
  else if i.op = 19 then ⟨m.s, m.st.dropLast, if topI m.st = 0 then i.a.toNat else m.at_ + 1, m.steps + 1⟩
  else if i.op = 20 then ⟨⟨m.s.vars, m.s.blocks.set i.a.toNat (runB (blkAt m.s i.a) (m.st.drop (m.st.length - (pinsIn (c.blocks.getD i.a.toNat 0)).length)) now).1⟩, m.st.take (m.st.length - (pinsIn (c.blocks.getD i.a.toNat 0)).length), m.at_ + 1, m.steps + 1⟩
  else if i.op = 21 then ⟨m.s, m.st ++ [(outsB (blkAt m.s i.a)).getD i.n.toNat 0], m.at_ + 1, m.steps + 1⟩
  else if i.op = 22 then ⟨m.s, m.st, c.ins.length, m.steps + 1⟩
  else ⟨m.s, m.st, m.at_ + 1, m.steps + 1⟩
def zeroDiv (m : GMach) (i : GIns) : Bool := (decide (i.op = 7) || decide (i.op = 8)) && decide (topI m.st = 0)
def mRun (c : GCode) (now : Int) : Nat → GMach → GMach × Int
  | 0, m => (m, 0)
  | f + 1, m =>
    match c.ins[m.at_]? with
    | none => (m, 0)
    | some i => if zeroDiv m i = true then (m, 162) else mRun c now f (mStep c now m i)
def mStart (s : GPlant) : GMach := ⟨s, [], 0, 0⟩
/-- A scan: the state behind it, what is told, how many steps, the error. -/
def scanB (c : GCode) (s : GPlant) (ins : List Int) (now : Int) : GPlant × List Int × Nat × Int :=
  if (spotsB c).2.2 ≠ 0 then (s, [], 0, (spotsB c).2.2)
  else if fitsS c s = false then (s, [], 0, 160)
  else match putB 1 c.vars s.vars ins with
    | none => (s, [], 0, 161)
    | some vs =>
      if now < 0 ∨ 1125899906842624 < now then (s, [], 0, 161)
      else if (mRun c now (c.ins.length + 1) (mStart ⟨vs, s.blocks⟩)).2 ≠ 0 then (s, [], (mRun c now (c.ins.length + 1) (mStart ⟨vs, s.blocks⟩)).1.steps, (mRun c now (c.ins.length + 1) (mStart ⟨vs, s.blocks⟩)).2)
      else ((mRun c now (c.ins.length + 1) (mStart ⟨vs, s.blocks⟩)).1.s, ofB 2 c.vars (mRun c now (c.ins.length + 1) (mStart ⟨vs, s.blocks⟩)).1.s.vars, (mRun c now (c.ins.length + 1) (mStart ⟨vs, s.blocks⟩)).1.steps, 0)
/-! ### lists of values and their types -/
theorem okIns_app : ∀ {a b s t : List Int}, okIns a s = true → okIns b t = true → okIns (a ++ b) (s ++ t) = true := by
  intro a
  induction a with
  | nil => intro b s t h1 h2; cases s with
    | nil => exact h2
    | cons _ _ => cases h1
  | cons x a ih =>
    intro b s t h1 h2
    cases s with
    | nil => cases h1
    | cons y s =>
      simp only [okIns, Bool.and_eq_true] at h1
      simp only [List.cons_append, okIns, Bool.and_eq_true]
      exact ⟨h1.1, ih h1.2 h2⟩
theorem okIns_split : ∀ {a b st : List Int}, okIns (a ++ b) st = true → ∃ s t, st = s ++ t ∧ okIns a s = true ∧ okIns b t = true := by
  intro a
  induction a with
  | nil => intro b st h; exact ⟨[], st, rfl, rfl, h⟩
  | cons x a ih =>
    intro b st h
    cases st with
    | nil => cases h
    | cons y st =>
      simp only [List.cons_append, okIns, Bool.and_eq_true] at h
      obtain ⟨s, t, rfl, h1, h2⟩ := ih h.2
      exact ⟨y :: s, t, rfl, by simp only [okIns, Bool.and_eq_true]; exact ⟨h.1, h1⟩, h2⟩
theorem okIns_one {t : Int} {l : List Int} (h : okIns [t] l = true) : ∃ x, l = [x] ∧ inR t x = true := by
  cases l with
  | nil => cases h
  | cons x l => cases l with
    | nil => simp only [okIns, Bool.and_eq_true] at h; exact ⟨x, rfl, h.1⟩
    | cons y l => simp [okIns] at h
theorem okIns_two {t u : Int} {l : List Int} (h : okIns [t, u] l = true) : ∃ x y, l = [x, y] ∧ inR t x = true ∧ inR u y = true := by
  cases l with
  | nil => cases h
  | cons x l => cases l with
    | nil => simp [okIns] at h
    | cons y l => cases l with
      | nil => simp only [okIns, Bool.and_eq_true] at h; exact ⟨x, y, rfl, h.1, h.2.1⟩
      | cons z l => simp [okIns] at h
theorem okIns_nil {l : List Int} (h : okIns [] l = true) : l = [] := by
  cases l with
  | nil => rfl
  | cons _ _ => cases h
theorem okIns_mk1 {t x : Int} (h : inR t x = true) : okIns [t] [x] = true := by simp [okIns, h]
theorem okIns_mk2 {t u x y : Int} (h : inR t x = true) (h' : inR u y = true) : okIns [t, u] [x, y] = true := by simp [okIns, h, h']
theorem okIns_get : ∀ {ts xs : List Int}, okIns ts xs = true → ∀ i, i < ts.length → inR (ts.getD i 0) (xs.getD i 0) = true := by
  intro ts
  induction ts with
  | nil => intro xs _ i h; simp at h
  | cons t ts ih =>
    intro xs h i hi
    cases xs with
    | nil => cases h
    | cons x xs =>
      simp only [okIns, Bool.and_eq_true] at h
      cases i with
      | zero => exact h.1
      | succ i => exact ih h.2 i (by simpa using hi)
theorem okIns_set : ∀ {ts xs : List Int}, okIns ts xs = true → ∀ i x, inR (ts.getD i 0) x = true → okIns ts (xs.set i x) = true := by
  intro ts
  induction ts with
  | nil => intro xs h i x _; rw [okIns_nil h]; rfl
  | cons t ts ih =>
    intro xs h i x hx
    cases xs with
    | nil => cases h
    | cons y xs =>
      simp only [okIns, Bool.and_eq_true] at h
      cases i with
      | zero => simp only [List.set_cons_zero, okIns, Bool.and_eq_true]; exact ⟨hx, h.2⟩
      | succ i => simp only [List.set_cons_succ, okIns, Bool.and_eq_true]; exact ⟨h.1, ih h.2 i x (by simpa using hx)⟩
theorem okBlks_len : ∀ {ks : List Int} {bs : List GBlock}, okBlks ks bs = true → ks.length = bs.length := by
  intro ks
  induction ks with
  | nil => intro bs h; cases bs with
    | nil => rfl
    | cons _ _ => cases h
  | cons k ks ih =>
    intro bs h
    cases bs with
    | nil => cases h
    | cons b bs => simp only [okBlks, Bool.and_eq_true] at h; simp [ih h.2]
theorem okBlks_get : ∀ {ks : List Int} {bs : List GBlock}, okBlks ks bs = true → ∀ i, i < ks.length → (bs.getD i (newB 0)).kind = ks.getD i 0 ∧ rightBlk (bs.getD i (newB 0)) = true := by
  intro ks
  induction ks with
  | nil => intro bs _ i h; simp at h
  | cons k ks ih =>
    intro bs h i hi
    cases bs with
    | nil => cases h
    | cons b bs =>
      simp only [okBlks, Bool.and_eq_true, decide_eq_true_eq] at h
      cases i with
      | zero => exact h.1
      | succ i => exact ih h.2 i (by simpa using hi)
theorem okBlks_set : ∀ {ks : List Int} {bs : List GBlock}, okBlks ks bs = true → ∀ i b, b.kind = ks.getD i 0 → rightBlk b = true → okBlks ks (bs.set i b) = true := by
  intro ks
  induction ks with
  | nil => intro bs h i b _ _; cases bs with
    | nil => rfl
    | cons _ _ => cases h
  | cons k ks ih =>
    intro bs h i b h1 h2
    cases bs with
    | nil => cases h
    | cons y bs =>
      simp only [okBlks, Bool.and_eq_true, decide_eq_true_eq] at h
      cases i with
      | zero => simp only [List.set_cons_zero, okBlks, Bool.and_eq_true, decide_eq_true_eq]; exact ⟨⟨h1, h2⟩, h.2⟩
      | succ i => simp only [List.set_cons_succ, okBlks, Bool.and_eq_true, decide_eq_true_eq]; exact ⟨h.1, ih h.2 i b (by simpa using h1) h2⟩
theorem inR_wrap (t n : Int) : inR t (wrapOf t n) = true := by
  unfold inR wrapOf rangeOf
  repeat' split
  all_goals first
    | rfl
    | (simp only [IntKind.wrap, IntKind.bits, IntKind.signed]; simp; omega)
theorem inR_sign (o t x y : Int) (h : o ≠ 13 ∧ o ≠ 14) (h2 : joinsOp o = true) : inR t (signB o t x y) = true := by
  unfold joinsOp at h2
  simp only [Bool.or_eq_true, Bool.and_eq_true, decide_eq_true_eq] at h2
  unfold signB
  repeat' split
  all_goals first
    | exact inR_wrap _ _
    | (exfalso; omega)
theorem inR_cmp (o t x y : Int) (h : o = 13 ∨ o = 14) : inR 1 (signB o t x y) = true := by
  rcases h with rfl | rfl
  · show inR 1 (if x = y then 1 else 0) = true
    split <;> rfl
  · show inR 1 (if x < y then 1 else 0) = true
    split <;> rfl
theorem inR_not {t n : Int} (h : inR t n = true) : inR t (notI t n) = true := by
  unfold notI
  by_cases e : t = 1
  · subst e
    rw [if_pos rfl]
    unfold inR rangeOf at h ⊢
    simp at h ⊢
    omega
  · rw [if_neg e]; exact inR_wrap _ _
theorem within_inR {t n : Int} (h : withinB t n = true) : inR t n = true := by
  unfold withinB at h
  unfold inR
  exact h
theorem fit_push {c : GCode} {i : GIns} (hf : fitsB c i = true) (ho : i.op = 1) : inR i.t i.n = true := by
  have h : fitsB c i = (chk c i 116 i.t && chk c i 45 i.a && chk c i 110 i.n) := by unfold fitsB; rw [ho]; rfl
  rw [h] at hf
  simp only [Bool.and_eq_true] at hf
  exact within_inR hf.2
/-! ### a machine of a program that passes -/
structure MOk (c : GCode) (m : GMach) : Prop where
  le : m.at_ ≤ c.ins.length
  go : m.at_ < c.ins.length → (spotAt (spotsB c).1 m.at_).reached = true ∧ okIns (spotAt (spotsB c).1 m.at_).stack m.st = true ∧ (m.steps : Int) ≤ (spotAt (spotsB c).1 m.at_).steps
  fits : fitsS c m.s = true
  most : (m.steps : Int) ≤ stepsB c
theorem takes_split {s t : List Int} (h : takesOk s t = true) : s = s.take (s.length - t.length) ++ t := by
  unfold takesOk at h
  simp only [Bool.and_eq_true, decide_eq_true_eq] at h
  conv => lhs; rw [← List.take_append_drop (s.length - t.length) s, h.2]
/-- What an instruction meets: the stack parts into what stays and what is taken. -/
theorem met {c : GCode} (h0 : (spotsB c).2.2 = 0) {m : GMach} (h : MOk c m) (hk : m.at_ < c.ins.length) :
    ∃ S s0 s1, (spotAt (spotsB c).1 m.at_).stack = S ++ (effB c c.ins[m.at_] (spotAt (spotsB c).1 m.at_).stack).1 ∧ m.st = s0 ++ s1 ∧ okIns S s0 = true ∧ okIns (effB c c.ins[m.at_] (spotAt (spotsB c).1 m.at_).stack).1 s1 = true ∧
      nextB (spotAt (spotsB c).1 m.at_).stack (effB c c.ins[m.at_] (spotAt (spotsB c).1 m.at_).stack) = S ++ (effB c c.ins[m.at_] (spotAt (spotsB c).1 m.at_).stack).2 := by
  obtain ⟨hr, hs, _⟩ := h.go hk
  obtain ⟨sj, sj', hl, ok, g⟩ := final_ins h0 hk hr
  have ht := takes_split ok.takes
  rw [ht] at hs
  obtain ⟨s0, s1, e, h1, h2⟩ := okIns_split hs
  exact ⟨_, s0, s1, ht, e, h1, h2, rfl⟩
/-- On at the next place, or at a jump's end, with the stack that is told there. -/
theorem MOk.next {c : GCode} (h0 : (spotsB c).2.2 = 0) {m : GMach} (h : MOk c m) (hk : m.at_ < c.ins.length) (hs : staysB c.ins[m.at_] = true) {s : GPlant} {st : List Int} (hf : fitsS c s = true) (hst : okIns (nextB (spotAt (spotsB c).1 m.at_).stack (effB c c.ins[m.at_] (spotAt (spotsB c).1 m.at_).stack)) st = true) : MOk c ⟨s, st, m.at_ + 1, m.steps + 1⟩ := by
  obtain ⟨hr, _, hm⟩ := h.go hk
  obtain ⟨sj, sj', hl, ok, g⟩ := final_ins h0 hk hr
  obtain ⟨j1, j2, j3⟩ := ok.next hs (by omega)
  obtain ⟨r1, r2, r3⟩ := g.at j1 j2 j3
  refine ⟨hk, fun _ => ⟨r1, by show okIns (spotAt (spotsB c).1 (m.at_ + 1)).stack st = true; rw [r2]; exact hst, ?_⟩, hf, ?_⟩
  · show ((m.steps + 1 : Nat) : Int) ≤ (spotAt (spotsB c).1 (m.at_ + 1)).steps
    omega
  · have := join_cost h0 (Nat.le_of_lt hk)
    unfold spotCost at this
    rw [hr, decide_eq_true hk] at this
    simp only [Bool.and_self, if_true] at this
    show ((m.steps + 1 : Nat) : Int) ≤ stepsB c
    omega
theorem MOk.jump {c : GCode} (h0 : (spotsB c).2.2 = 0) {m : GMach} (h : MOk c m) (hk : m.at_ < c.ins.length) (hj : jumpsB c.ins[m.at_] = true) {s : GPlant} {st : List Int} (hf : fitsS c s = true) (hst : okIns (nextB (spotAt (spotsB c).1 m.at_).stack (effB c c.ins[m.at_] (spotAt (spotsB c).1 m.at_).stack)) st = true) : MOk c ⟨s, st, c.ins[m.at_].a.toNat, m.steps + 1⟩ ∧ m.at_ < c.ins[m.at_].a.toNat := by
  obtain ⟨hr, _, hm⟩ := h.go hk
  obtain ⟨sj, sj', hl, ok, g⟩ := final_ins h0 hk hr
  obtain ⟨q1, q2, _, _⟩ := join_jump h0 hk hr hj
  obtain ⟨j1, j2, j3⟩ := ok.jump hj (by omega)
  obtain ⟨r1, r2, r3⟩ := g.at j1 j2 j3
  refine ⟨⟨by show c.ins[m.at_].a.toNat ≤ _; omega, fun _ => ⟨r1, by show okIns (spotAt (spotsB c).1 c.ins[m.at_].a.toNat).stack st = true; rw [r2]; exact hst, ?_⟩, hf, ?_⟩, by omega⟩
  · show ((m.steps + 1 : Nat) : Int) ≤ (spotAt (spotsB c).1 c.ins[m.at_].a.toNat).steps
    omega
  · have := join_cost h0 (Nat.le_of_lt hk)
    unfold spotCost at this
    rw [hr, decide_eq_true hk] at this
    simp only [Bool.and_self, if_true] at this
    show ((m.steps + 1 : Nat) : Int) ≤ stepsB c
    omega
theorem last_app (s : List Int) (x : Int) : topI (s ++ [x]) = x ∧ (s ++ [x]).dropLast = s := by
  unfold topI
  exact ⟨by simp, by simp⟩
theorem last_app2 (s : List Int) (x y : Int) : topI (s ++ [x, y]) = y ∧ topI (s ++ [x, y]).dropLast = x ∧ (s ++ [x, y]).dropLast.dropLast = s := by
  have e : s ++ [x, y] = (s ++ [x]) ++ [y] := by simp
  rw [e, (last_app (s ++ [x]) y).1, (last_app (s ++ [x]) y).2, (last_app s x).1, (last_app s x).2]
  exact ⟨rfl, rfl, rfl⟩
theorem tys_get (c : GCode) (a : Int) : (tysOf c).getD a.toNat 0 = varTy c a := by
  unfold tysOf varTy
  rw [List.getD_eq_getElem?_getD, List.getElem?_map]
  cases c.vars[a.toNat]? <;> rfl
theorem getLast_app (s : List Int) (t : Int) : (s ++ [t]).getLastD 0 = t := by simp
theorem mStep_ok {c : GCode} (h0 : (spotsB c).2.2 = 0) {m : GMach} (h : MOk c m) (now : Int) (hk : m.at_ < c.ins.length) : MOk c (mStep c now m c.ins[m.at_]) ∧ m.at_ < (mStep c now m c.ins[m.at_]).at_ := by
  obtain ⟨S, s0, s1, eS, est, hS, hs1, hn⟩ := met h0 h hk
  have hI := (ins_ok (spots_right h0)) m.at_ hk
  obtain ⟨i, hi⟩ : ∃ i, c.ins[m.at_] = i := ⟨_, rfl⟩
  have NX := h.next h0 hk
  have JP := h.jump h0 hk
  rw [hi] at eS hs1 hn hI NX JP ⊢
  have hfit := h.fits
  unfold fitsS at hfit
  simp only [Bool.and_eq_true] at hfit
  obtain ⟨hfv, hfb⟩ := hfit
  obtain ⟨stk, hstk⟩ : ∃ stk, (spotAt (spotsB c).1 m.at_).stack = stk := ⟨_, rfl⟩
  rw [hstk] at eS hs1 hn NX JP
  have stays : i.op ≠ 18 → i.op ≠ 22 → staysB i = true := fun a b => by unfold staysB; rw [decide_eq_true a, decide_eq_true b]; rfl
  have eff : ∀ a b, effB c i stk = (a, b) → stk = S ++ a ∧ okIns a s1 = true ∧ nextB stk (effB c i stk) = S ++ b := fun a b e => by rw [e] at eS hs1 hn ⊢; exact ⟨eS, hs1, hn⟩
  have lt1 : m.at_ < m.at_ + 1 := by omega
  by_cases hj : joinsOp i.op = true
  · rw [mStep, if_pos hj]
    have hj2 := hj
    unfold joinsOp at hj2
    simp only [Bool.or_eq_true, Bool.and_eq_true, decide_eq_true_eq] at hj2
    have hx : ∃ r, effB c i stk = ([i.t, i.t], [r]) ∧ ∀ x y, inR r (signB i.op i.t x y) = true := by
      by_cases hc : i.op = 13 ∨ i.op = 14
      · refine ⟨1, ?_, fun x y => inR_cmp _ _ _ _ hc⟩
        unfold effB
        rw [if_neg (by omega), if_neg (by omega), if_neg (by omega), if_neg (by omega), if_neg (by omega), if_pos hc]
      · refine ⟨i.t, ?_, fun x y => inR_sign _ _ _ _ (by omega) hj⟩
        unfold effB
        rw [if_neg (by omega), if_neg (by omega), if_neg (by omega), if_pos (by omega)]
    obtain ⟨r, e, hr⟩ := hx
    obtain ⟨_, e2, e3⟩ := eff _ _ e
    obtain ⟨x, y, rfl, hx, hy⟩ := okIns_two e2
    obtain ⟨q1, q2, q3⟩ := last_app2 s0 x y
    refine ⟨NX (stays (by omega) (by omega)) h.fits ?_, lt1⟩
    rw [e3, est, q3]
    exact okIns_app hS (okIns_mk1 (hr _ _))
  have hj2 : ¬ ((4 ≤ i.op ∧ i.op ≤ 11) ∨ i.op = 13 ∨ i.op = 14) := fun hh => hj (by
    unfold joinsOp
    simp only [Bool.or_eq_true, Bool.and_eq_true, decide_eq_true_eq]
    omega)
  rw [mStep, if_neg hj]
  by_cases o1 : i.op = 1
  · rw [if_pos o1]
    obtain ⟨_, e2, e3⟩ := eff [] [i.t] (by unfold effB; rw [if_pos o1])
    obtain rfl := okIns_nil e2
    refine ⟨NX (stays (by omega) (by omega)) h.fits ?_, lt1⟩
    rw [e3, est, List.append_nil]
    exact okIns_app hS (okIns_mk1 (fit_push hI.2 o1))
  rw [if_neg o1]
  by_cases o2 : i.op = 2
  · rw [if_pos o2]
    obtain ⟨_, e2, e3⟩ := eff [] [varTy c i.a] (by unfold effB; rw [if_neg o1, if_pos o2])
    obtain rfl := okIns_nil e2
    have hv := fit_var hI.2 (.inl o2)
    refine ⟨NX (stays (by omega) (by omega)) h.fits ?_, lt1⟩
    rw [e3, est, List.append_nil]
    refine okIns_app hS (okIns_mk1 ?_)
    have := okIns_get hfv i.a.toNat (by unfold tysOf; rw [List.length_map]; omega)
    rwa [tys_get] at this
  rw [if_neg o2]
  by_cases o3 : i.op = 3
  · rw [if_pos o3]
    obtain ⟨_, e2, e3⟩ := eff [varTy c i.a] [] (by unfold effB; rw [if_neg o1, if_neg o2, if_pos o3])
    obtain ⟨x, rfl, hx⟩ := okIns_one e2
    obtain ⟨q1, q2⟩ := last_app s0 x
    refine ⟨NX (stays (by omega) (by omega)) ?_ ?_, lt1⟩
    · rw [est, q1]
      unfold fitsS
      simp only [Bool.and_eq_true]
      exact ⟨okIns_set hfv _ _ (by rw [tys_get]; exact hx), hfb⟩
    · rw [e3, est, q2, List.append_nil]; exact hS
  rw [if_neg o3]
  by_cases o12 : i.op = 12
  · rw [if_pos o12]
    obtain ⟨_, e2, e3⟩ := eff [i.t] [i.t] (by unfold effB; rw [if_neg o1, if_neg o2, if_neg o3, if_neg (by omega), if_pos o12])
    obtain ⟨x, rfl, hx⟩ := okIns_one e2
    obtain ⟨q1, q2⟩ := last_app s0 x
    refine ⟨NX (stays (by omega) (by omega)) h.fits ?_, lt1⟩
    rw [e3, est, q1, q2]
    exact okIns_app hS (okIns_mk1 (inR_not hx))
  rw [if_neg o12]
  by_cases o15 : i.op = 15
  · rw [if_pos o15]
    obtain ⟨_, e2, e3⟩ := eff [i.a % 256] [i.t] (by unfold effB; rw [if_neg o1, if_neg o2, if_neg o3, if_neg (by omega), if_neg o12, if_neg (by omega), if_pos o15])
    obtain ⟨x, rfl, hx⟩ := okIns_one e2
    obtain ⟨q1, q2⟩ := last_app s0 x
    refine ⟨NX (stays (by omega) (by omega)) h.fits ?_, lt1⟩
    rw [e3, est, q1, q2]
    exact okIns_app hS (okIns_mk1 (inR_wrap _ _))
  rw [if_neg o15]
  by_cases o16 : i.op = 16
  · rw [if_pos o16]
    obtain ⟨e1, e2, e3⟩ := eff [stk.getLastD 0] [stk.getLastD 0, stk.getLastD 0] (by unfold effB; rw [if_neg o1, if_neg o2, if_neg o3, if_neg (by omega), if_neg o12, if_neg (by omega), if_neg o15, if_pos o16])
    obtain ⟨x, rfl, hx⟩ := okIns_one e2
    obtain ⟨q1, q2⟩ := last_app s0 x
    refine ⟨NX (stays (by omega) (by omega)) h.fits ?_, lt1⟩
    rw [e3, est, q1, List.append_assoc]
    exact okIns_app hS (okIns_mk2 hx hx)
  rw [if_neg o16]
  by_cases o17 : i.op = 17
  · rw [if_pos o17]
    obtain ⟨e1, e2, e3⟩ := eff [stk.getLastD 0] [] (by unfold effB; rw [if_neg o1, if_neg o2, if_neg o3, if_neg (by omega), if_neg o12, if_neg (by omega), if_neg o15, if_neg o16, if_pos o17])
    obtain ⟨x, rfl, hx⟩ := okIns_one e2
    obtain ⟨q1, q2⟩ := last_app s0 x
    refine ⟨NX (stays (by omega) (by omega)) h.fits ?_, lt1⟩
    rw [e3, est, q2, List.append_nil]
    exact hS
  rw [if_neg o17]
  by_cases o18 : i.op = 18
  · rw [if_pos o18]
    obtain ⟨e1, e2, e3⟩ := eff [] [] (by unfold effB; rw [if_neg o1, if_neg o2, if_neg o3, if_neg (by omega), if_neg o12, if_neg (by omega), if_neg o15, if_neg o16, if_neg o17, if_neg (by omega), if_neg (by omega), if_neg (by omega)])
    obtain rfl := okIns_nil e2
    exact JP (by unfold jumpsB; rw [decide_eq_true o18]; rfl) h.fits (by rw [e3, est, List.append_nil, List.append_nil]; exact hS)
  rw [if_neg o18]
  by_cases o19 : i.op = 19
  · rw [if_pos o19]
    obtain ⟨e1, e2, e3⟩ := eff [1] [] (by unfold effB; rw [if_neg o1, if_neg o2, if_neg o3, if_neg (by omega), if_neg o12, if_neg (by omega), if_neg o15, if_neg o16, if_neg o17, if_pos o19])
    obtain ⟨x, rfl, hx⟩ := okIns_one e2
    obtain ⟨q1, q2⟩ := last_app s0 x
    have hst : okIns (nextB stk (effB c i stk)) m.st.dropLast = true := by rw [e3, est, q2, List.append_nil]; exact hS
    by_cases ht : topI m.st = 0
    · simp only [if_pos ht]
      exact JP (by unfold jumpsB; rw [decide_eq_true o19, Bool.or_true]) h.fits hst
    · simp only [if_neg ht]
      exact ⟨NX (stays (by omega) (by omega)) h.fits hst, lt1⟩
  rw [if_neg o19]
  by_cases o20 : i.op = 20
  · rw [if_pos o20]
    obtain ⟨e1, e2, e3⟩ := eff (pinsIn (c.blocks.getD i.a.toNat 0)) [] (by unfold effB; rw [if_neg o1, if_neg o2, if_neg o3, if_neg (by omega), if_neg o12, if_neg (by omega), if_neg o15, if_neg o16, if_neg o17, if_neg o19, if_pos o20])
    have hl := okIns_len e2
    have hb := fit_block hI.2 (.inl o20)
    obtain ⟨g1, g2⟩ := okBlks_get hfb i.a.toNat (by omega)
    have hd : m.st.take (m.st.length - (pinsIn (c.blocks.getD i.a.toNat 0)).length) = s0 := by rw [est, hl, List.length_append, Nat.add_sub_cancel, List.take_left' rfl]
    refine ⟨NX (stays (by omega) (by omega)) ?_ ?_, lt1⟩
    · unfold fitsS
      simp only [Bool.and_eq_true]
      obtain ⟨r1, r2⟩ := right_run (b := blkAt m.s i.a) (m.st.drop (m.st.length - (pinsIn (c.blocks.getD i.a.toNat 0)).length)) now g2
      exact ⟨hfv, okBlks_set hfb _ _ (by rw [r2]; exact g1) r1⟩
    · rw [hd, e3, List.append_nil]; exact hS
  rw [if_neg o20]
  by_cases o21 : i.op = 21
  · rw [if_pos o21]
    obtain ⟨e1, e2, e3⟩ := eff [] [pinTy (c.blocks.getD i.a.toNat 0) i.n] (by unfold effB; rw [if_neg o1, if_neg o2, if_neg o3, if_neg (by omega), if_neg o12, if_neg (by omega), if_neg o15, if_neg o16, if_neg o17, if_neg o19, if_neg o20, if_pos o21])
    obtain rfl := okIns_nil e2
    have hb := fit_block hI.2 (.inr o21)
    have hp := fit_pin hI.2 o21
    obtain ⟨g1, g2⟩ := okBlks_get hfb i.a.toNat (by omega)
    have ho := okIns_get (outs_in g2) i.n.toNat (by rw [g1]; omega)
    rw [g1] at ho
    refine ⟨NX (stays (by omega) (by omega)) h.fits ?_, lt1⟩
    rw [e3, est, List.append_nil]
    exact okIns_app hS (okIns_mk1 ho)
  rw [if_neg o21]
  have o22 : i.op = 22 := by omega
  rw [if_pos o22]
  refine ⟨⟨Nat.le_refl _, fun hh => absurd hh (Nat.lt_irrefl _), h.fits, ?_⟩, hk⟩
  obtain ⟨hr, _, hm⟩ := h.go hk
  have := join_cost h0 (Nat.le_of_lt hk)
  unfold spotCost at this
  rw [hr, decide_eq_true hk] at this
  simp only [Bool.and_self, if_true] at this
  show ((m.steps + 1 : Nat) : Int) ≤ stepsB c
  omega
theorem mRun_ok {c : GCode} (h0 : (spotsB c).2.2 = 0) (now : Int) : ∀ (f : Nat) (m : GMach), MOk c m → c.ins.length - m.at_ < f → MOk c (mRun c now f m).1 ∧ ((mRun c now f m).2 = 0 ∨ (mRun c now f m).2 = 162) ∧ ((mRun c now f m).2 = 0 → (mRun c now f m).1.at_ = c.ins.length) := by
  intro f
  induction f with
  | zero => intro m _ h; omega
  | succ f ih =>
    intro m h hf
    unfold mRun
    cases hi : c.ins[m.at_]? with
    | none =>
      have := List.getElem?_eq_none_iff.1 hi
      have := h.le
      exact ⟨h, .inl rfl, fun _ => by show m.at_ = _; omega⟩
    | some i =>
      obtain ⟨hk, rfl⟩ := List.getElem?_eq_some_iff.1 hi
      by_cases hz : zeroDiv m c.ins[m.at_] = true
      · simp only [if_pos hz]
        exact ⟨h, .inr trivial, fun e => absurd e (by decide)⟩
      · simp only [if_neg hz]
        obtain ⟨h1, h2⟩ := mStep_ok h0 h now hk
        exact ih _ h1 (by omega)
theorem mStart_ok {c : GCode} (h0 : (spotsB c).2.2 = 0) {s : GPlant} (hf : fitsS c s = true) : MOk c (mStart s) := by
  have hr := join_start h0
  have hst : (spotAt (spotsB c).1 0).stack = [] ∧ 0 ≤ (spotAt (spotsB c).1 0).steps := by
    have hR := spots_right h0
    have e : spotsB c = walkB c (c.ins.length + 1) 0 (start c.ins.length) := by unfold spotsB; rw [if_pos hR]
    rw [e] at h0 ⊢
    have g := (walk_ok h0).1.2 0
    exact ⟨(g.1 rfl).2, g.2⟩
  refine ⟨Nat.zero_le _, fun _ => ⟨hr, ?_, hst.2⟩, hf, ?_⟩
  · show okIns (spotAt (spotsB c).1 0).stack [] = true
    rw [hst.1]; rfl
  · have e : stepsB c = mostB c.ins.length 0 (spotsB c).1 0 := by unfold stepsB; rw [if_pos h0]
    show (0 : Int) ≤ _
    rw [e]
    exact (most_le c.ins.length (spotsB c).1 0 0).1
end Go.Proofs.Ytiogpainajokkaa

