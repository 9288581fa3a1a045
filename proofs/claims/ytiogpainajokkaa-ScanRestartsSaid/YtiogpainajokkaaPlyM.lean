/- Plain laws of scans: what a scan of a program that passes comes to, what is read in, what goes through a restart. -/
import Derived.Test.YtiogpainajokkaaScn
import Derived.Test.YtiogpainajokkaaAwkM
namespace Go.Proofs.Ytiogpainajokkaa
open Go.RowKit
/-- Inputs that a program has, of any numbers. -/
def fitB : List GVar → List Int → List Int
  | v :: vs, l => if v.cls = 1 then wrapOf v.ty (l.getD 0 0) :: fitB vs (l.drop 1) else fitB vs l
  | [], _ => []
theorem fitB_snoc : ∀ (vs : List GVar) (v : GVar) (l : List Int), fitB (vs ++ [v]) l = fitB vs l ++ (if v.cls = 1 then [wrapOf v.ty (l.getD (fitB vs l).length 0)] else [])
  | [], v, l => by
    by_cases h : v.cls = 1 <;> simp [fitB, h]
  | u :: vs, v, l => by
    by_cases h : u.cls = 1
    · have e1 : fitB (u :: vs ++ [v]) l = wrapOf u.ty (l.getD 0 0) :: fitB (vs ++ [v]) (l.drop 1) := by simp only [List.cons_append, fitB]; rw [if_pos h]
      have e2 : fitB (u :: vs) l = wrapOf u.ty (l.getD 0 0) :: fitB vs (l.drop 1) := by simp only [fitB]; rw [if_pos h]
      rw [e1, e2, fitB_snoc vs v (l.drop 1)]
      have e3 : (l.drop 1).getD (fitB vs (l.drop 1)).length 0 = l.getD (wrapOf u.ty (l.getD 0 0) :: fitB vs (l.drop 1)).length 0 := by
        rw [List.length_cons, List.getD_eq_getElem?_getD, List.getD_eq_getElem?_getD, List.getElem?_drop, Nat.add_comm]
      rw [e3]
      rfl
    · have e1 : fitB (u :: vs ++ [v]) l = fitB (vs ++ [v]) l := by simp only [List.cons_append, fitB]; rw [if_neg h]
      have e2 : fitB (u :: vs) l = fitB vs l := by simp only [fitB]; rw [if_neg h]
      rw [e1, e2, fitB_snoc vs v l]
theorem fitB_take {vs : List GVar} {l : List Int} {j : Nat} (h : j < vs.length) : fitB (vs.take (j + 1)) l = fitB (vs.take j) l ++ (if (vs[j]).cls = 1 then [wrapOf (vs[j]).ty (l.getD (fitB (vs.take j) l).length 0)] else []) := by
  rw [List.take_succ_eq_append_getElem h, fitB_snoc]
theorem fitB_len : ∀ (vs : List GVar) (l : List Int), (fitB vs l).length ≤ vs.length
  | [], _ => Nat.le_refl _
  | v :: vs, l => by
    by_cases h : v.cls = 1
    · simp only [fitB]; rw [if_pos h, List.length_cons, List.length_cons]; have := fitB_len vs (l.drop 1); omega
    · simp only [fitB]; rw [if_neg h, List.length_cons]; have := fitB_len vs l; omega
/-- Such inputs are put, and are then what the variables hold. -/
theorem put_fit : ∀ (vs : List GVar) (xs l : List Int), vs.length = xs.length → ∃ cur, putB 1 vs xs (fitB vs l) = some cur ∧ ofB 1 vs cur = fitB vs l ∧ cur.length = vs.length
  | [], [], _, _ => ⟨[], rfl, rfl, rfl⟩
  | [], _ :: _, _, h => by cases h
  | _ :: _, [], _, h => by cases h
  | v :: vs, x :: xs, l, h => by
    have h' : vs.length = xs.length := by simpa using h
    by_cases hc : v.cls = 1
    · obtain ⟨cur, e1, e2, e3⟩ := put_fit vs xs (l.drop 1) h'
      have ef : fitB (v :: vs) l = wrapOf v.ty (l.getD 0 0) :: fitB vs (l.drop 1) := by simp only [fitB]; rw [if_pos hc]
      refine ⟨wrapOf v.ty (l.getD 0 0) :: cur, ?_, ?_, by simp [e3]⟩
      · rw [ef, putB_ok hc (inR_wrap _ _), e1]; rfl
      · rw [ef, ← e2]; simp only [ofB]; rw [if_pos hc]
    · obtain ⟨cur, e1, e2, e3⟩ := put_fit vs xs l h'
      have ef : fitB (v :: vs) l = fitB vs l := by simp only [fitB]; rw [if_neg hc]
      refine ⟨x :: cur, ?_, ?_, by simp [e3]⟩
      · rw [ef, putB_skip hc, e1]; rfl
      · rw [ef, ← e2]; simp only [ofB]; rw [if_neg hc]
/-- A store into a variable of another class. -/
theorem ofB_set (k : Int) : ∀ (vs : List GVar) (xs : List Int) (a : Nat) (x : Int), (∀ v, vs[a]? = some v → v.cls ≠ k) → ofB k vs (xs.set a x) = ofB k vs xs
  | [], _, _, _, _ => by simp [ofB]
  | _ :: _, [], a, _, _ => by simp [ofB]
  | v :: vs, y :: xs, 0, x, h => by
    have := h v rfl
    simp only [List.set_cons_zero, ofB]
    rw [if_neg this, if_neg this]
  | v :: vs, y :: xs, a + 1, x, h => by
    have := ofB_set k vs xs a x (fun v hv => h v (by simpa using hv))
    simp only [List.set_cons_succ, ofB]
    rw [this]
theorem fit_store {c : GCode} {i : GIns} (hf : fitsB c i = true) (ho : i.op = 3) : ∀ v, c.vars[i.a.toNat]? = some v → v.cls ≠ 1 := by
  obtain ⟨op, t, a, n⟩ := i
  obtain rfl : op = _ := ho
  simp only [fitsB, show shapeStr 3 = [45, 115, 45] from rfl, Bool.and_eq_true] at hf
  have h := hf.1.2
  intro v hv
  simp [chk, storeB, hv] at h
  exact h.2
theorem mStep_reads {c : GCode} {i : GIns} (hf : fitsB c i = true) (now : Int) (m : GMach) : ofB 1 c.vars (mStep c now m i).s.vars = ofB 1 c.vars m.s.vars := by
  by_cases h3 : i.op = 3
  · have hj : ¬ joinsOp i.op = true := by rw [h3]; decide
    rw [mStep, if_neg hj, if_neg (by omega), if_neg (by omega), if_pos h3]
    exact ofB_set 1 _ _ _ _ (fit_store hf h3)
  · unfold mStep
    rw [if_neg h3]
    have ite : ∀ {p : Prop} [Decidable p] {a b : GMach}, a.s.vars = m.s.vars → b.s.vars = m.s.vars → (if p then a else b).s.vars = m.s.vars := fun {p} _ {a b} ha hb => by by_cases h : p <;> simp [h, ha, hb]
    refine congrArg (ofB 1 c.vars) ?_
    repeat' apply ite
    all_goals rfl
theorem mRun_reads {c : GCode} (hR : rightB c = true) (now : Int) : ∀ (f : Nat) (m : GMach), ofB 1 c.vars (mRun c now f m).1.s.vars = ofB 1 c.vars m.s.vars := by
  intro f
  induction f with
  | zero => intro m; rfl
  | succ f ih =>
    intro m
    unfold mRun
    cases hi : c.ins[m.at_]? with
    | none => rfl
    | some i =>
      obtain ⟨hk, rfl⟩ := List.getElem?_eq_some_iff.1 hi
      by_cases hz : zeroDiv m c.ins[m.at_] = true
      · simp only [if_pos hz]
      · simp only [if_neg hz]
        rw [ih, mStep_reads ((right_parts hR).2.2.2.2.2.2.2 m.at_ hk)]
theorem fits_len {c : GCode} {s : GPlant} (h : fitsS c s = true) : c.vars.length = s.vars.length ∧ c.blocks.length = s.blocks.length := by
  unfold fitsS tysOf at h
  simp only [Bool.and_eq_true] at h
  have := okIns_len h.1
  rw [List.length_map] at this
  exact ⟨this, okBlks_len h.2⟩
theorem ofB_len2 (k : Int) : ∀ (vs : List GVar) (xs ys : List Int), vs.length = xs.length → vs.length = ys.length → (ofB k vs xs).length = (ofB k vs ys).length
  | [], _, _, _, _ => by simp [ofB]
  | _ :: _, [], _, h, _ => by cases h
  | _ :: _, _ :: _, [], _, h => by cases h
  | v :: vs, x :: xs, y :: ys, h1, h2 => by
    have := ofB_len2 k vs xs ys (by simpa using h1) (by simpa using h2)
    by_cases hc : v.cls = k
    · simp only [ofB]; rw [if_pos hc, if_pos hc]; simp [this]
    · simp only [ofB]; rw [if_neg hc, if_neg hc]; exact this
/-- How many variables a class has. -/
def clsN (k : Int) (vs : List GVar) : Nat := (vs.filter (fun v => decide (v.cls = k))).length
theorem ofB_cls (k : Int) : ∀ (vs : List GVar) (xs : List Int), vs.length = xs.length → (ofB k vs xs).length = clsN k vs
  | [], _, _ => by simp [ofB, clsN]
  | _ :: _, [], h => by cases h
  | v :: vs, x :: xs, h => by
    have := ofB_cls k vs xs (by simpa using h)
    unfold clsN at this ⊢
    by_cases hc : v.cls = k
    · simp only [ofB]; rw [if_pos hc, List.filter_cons_of_pos (by simpa using hc)]; simp [this]
    · simp only [ofB]; rw [if_neg hc, List.filter_cons_of_neg (by simpa using hc)]; exact this
/-- What a scan of a program that passes comes to. -/
structure ScanOk (c : GCode) (s : GPlant) (ins : List Int) (r : GPlant × List Int × Nat × Int) : Prop where
  fits : fitsS c r.1 = true
  most : (r.2.2.1 : Int) ≤ stepsB c
  err : r.2.2.2 = 0 ∨ (r.2.2.2 = 162 ∧ r.1 = s ∧ r.2.1 = [])
  outs : r.2.2.2 = 0 → r.2.1 = ofB 2 c.vars r.1.vars
  reads : r.2.2.2 = 0 → ofB 1 c.vars r.1.vars = ins
theorem scan_ok {c : GCode} (h0 : (spotsB c).2.2 = 0) {s : GPlant} (hf : fitsS c s = true) (l : List Int) {now : Int} (n1 : 0 ≤ now) (n2 : now ≤ 1125899906842624) : ScanOk c s (fitB c.vars l) (scanB c s (fitB c.vars l) now) := by
  obtain ⟨cur, hp, ho, hl⟩ := put_fit c.vars s.vars l (fits_len hf).1
  have hn : ¬ (now < 0 ∨ 1125899906842624 < now) := by omega
  have hf2 := put_fits hf hp
  obtain ⟨hM, hE, _⟩ := mRun_ok h0 now (c.ins.length + 1) _ (mStart_ok h0 hf2) (by show _ - 0 < _; omega)
  have hr := mRun_reads (spots_right h0) now (c.ins.length + 1) (mStart ⟨cur, s.blocks⟩)
  obtain ⟨⟨M, er⟩, hm⟩ : ∃ r, mRun c now (c.ins.length + 1) (mStart ⟨cur, s.blocks⟩) = r := ⟨_, rfl⟩
  rw [hm] at hM hE hr
  rcases hE with rfl | rfl
  · rw [scanB_ok h0 hf hp hn hm]
    exact ⟨hM.fits, hM.most, .inl rfl, fun _ => rfl, fun _ => hr.trans ho⟩
  · rw [scanB_bad h0 hf hp hn hm (by decide)]
    have ne : ¬ ((162 : Int) = 0) := by decide
    exact ⟨hf, hM.most, .inr ⟨rfl, rfl, rfl⟩, fun h => absurd h ne, fun h => absurd h ne⟩
/-! ### a state at first, and what is kept -/
theorem okIns_first {vs : List GVar} (h : ∀ i, (hi : i < vs.length) → inR vs[i].ty vs[i].first = true) : okIns (vs.map (·.ty)) (vs.map (·.first)) = true := by
  induction vs with
  | nil => rfl
  | cons v vs ih =>
    simp only [List.map_cons, okIns, Bool.and_eq_true]
    exact ⟨h 0 (by simp), ih (fun i hi => h (i + 1) (by simpa using hi))⟩
theorem right_new {k : Int} (h : 1 ≤ k) (h' : k ≤ 11) : rightBlk (newB k) = true := by
  rcases (by omega : k = 1 ∨ k = 2 ∨ k = 3 ∨ k = 4 ∨ k = 5 ∨ k = 6 ∨ k = 7 ∨ k = 8 ∨ k = 9 ∨ k = 10 ∨ k = 11) with rfl | rfl | rfl | rfl | rfl | rfl | rfl | rfl | rfl | rfl | rfl <;> decide
theorem okBlks_first : ∀ {ks : List Int}, (∀ k ∈ ks, 1 ≤ k ∧ k ≤ 11) → okBlks ks (ks.map newB) = true := by
  intro ks
  induction ks with
  | nil => intro _; rfl
  | cons k ks ih =>
    intro h
    have := h k (by simp)
    simp only [List.map_cons, okBlks, right_new this.1 this.2, ih (fun k hk => h k (by simp [hk])), Bool.and_true]
    exact decide_eq_true rfl
theorem first_fits {c : GCode} (h0 : (spotsB c).2.2 = 0) : fitsS c (firstB c) = true := by
  have hR := spots_right h0
  unfold fitsS tysOf firstB
  simp only [Bool.and_eq_true]
  refine ⟨okIns_first fun i hi => ?_, okBlks_first (blk_kinds hR)⟩
  have := ((right_parts hR).2.2.2.2.2.1 i hi).1.first
  unfold inR
  simp only [Bool.and_eq_true, decide_eq_true_eq]
  exact this
/-- What New of the kept answers. -/
def restR (er : Int) (po : Option (List Int)) (bl : List GBlock) : GPlant × Int :=
  if er ≠ 0 then (⟨[], []⟩, er)
  else match po with
    | none => (⟨[], []⟩, 161)
    | some vs => (⟨vs, bl⟩, 0)
def restB (c : GCode) (kept : List Int) : GPlant × Int := restR (spotsB c).2.2 (putB 4 c.vars (firstB c).vars kept) (firstB c).blocks
def rightS (c : GCode) (s : GPlant) : Bool := decide ((spotsB c).2.2 = 0) && fitsS c s
def keptB (c : GCode) (s : GPlant) : List Int := if rightS c s = true then ofB 4 c.vars s.vars else []
/-- Kept values put into another state: the kept ones are these, the others are as they were. -/
def mixB : List GVar → List Int → List Int → List Int
  | v :: vs, f :: fs, x :: xs => (if v.cls = 4 then x else f) :: mixB vs fs xs
  | _, _, _ => []
theorem put_kept : ∀ (vs : List GVar) (fs xs : List Int), vs.length = fs.length → okIns (vs.map (·.ty)) xs = true → putB 4 vs fs (ofB 4 vs xs) = some (mixB vs fs xs) ∧ ofB 4 vs (mixB vs fs xs) = ofB 4 vs xs
  | [], [], [], _, _ => ⟨rfl, rfl⟩
  | [], [], _ :: _, _, h => by cases h
  | [], _ :: _, _, h, _ => by cases h
  | _ :: _, [], _, h, _ => by cases h
  | _ :: _, _ :: _, [], _, h => by cases h
  | v :: vs, f :: fs, x :: xs, h, h2 => by
    simp only [List.map_cons, okIns, Bool.and_eq_true] at h2
    obtain ⟨e1, e2⟩ := put_kept vs fs xs (by simpa using h) h2.2
    by_cases hc : v.cls = 4
    · have eo : ofB 4 (v :: vs) (x :: xs) = x :: ofB 4 vs xs := by simp only [ofB]; rw [if_pos hc]
      have em : mixB (v :: vs) (f :: fs) (x :: xs) = x :: mixB vs fs xs := by simp only [mixB]; rw [if_pos hc]
      rw [eo, em, putB_ok hc h2.1, e1]
      refine ⟨rfl, ?_⟩
      simp only [ofB]
      rw [if_pos hc, e2]
    · have eo : ofB 4 (v :: vs) (x :: xs) = ofB 4 vs xs := by simp only [ofB]; rw [if_neg hc]
      have em : mixB (v :: vs) (f :: fs) (x :: xs) = f :: mixB vs fs xs := by simp only [mixB]; rw [if_neg hc]
      rw [eo, em, putB_skip hc, e1]
      refine ⟨rfl, ?_⟩
      simp only [ofB]
      rw [if_neg hc, e2]
theorem put_more : ∀ (vs : List GVar) (fs l : List Int) (cur : List Int) (y : Int), putB 4 vs fs l = some cur → vs.length = fs.length → putB 4 vs fs (l ++ [y]) = none
  | [], [], l, cur, y, _, _ => by
    rw [putB_end, if_neg (by simp)]
  | [], _ :: _, _, _, _, _, h => by cases h
  | _ :: _, [], _, _, _, _, h => by cases h
  | v :: vs, f :: fs, l, cur, y, h, hl => by
    by_cases hc : v.cls = 4
    · cases l with
      | nil => rw [putB_nil hc] at h; cases h
      | cons z zs =>
        cases hr : inR v.ty z with
        | false => rw [putB_bad hc hr] at h; cases h
        | true =>
          rw [putB_ok hc hr] at h
          obtain ⟨l', hl', _⟩ := Option.map_eq_some_iff.1 h
          rw [List.cons_append, putB_ok hc hr, put_more vs fs zs l' y hl' (by simpa using hl)]
          rfl
    · rw [putB_skip hc] at h
      obtain ⟨l', hl', _⟩ := Option.map_eq_some_iff.1 h
      rw [putB_skip hc, put_more vs fs l l' y hl' (by simpa using hl)]
      rfl
theorem mixB_len : ∀ (vs : List GVar) (fs xs : List Int), vs.length = fs.length → vs.length = xs.length → (mixB vs fs xs).length = vs.length
  | [], _, _, _, _ => by simp [mixB]
  | _ :: _, [], _, h, _ => by cases h
  | _ :: _, _ :: _, [], _, h => by cases h
  | v :: vs, f :: fs, x :: xs, h, h2 => by
    have := mixB_len vs fs xs (by simpa using h) (by simpa using h2)
    simp [mixB, this]
theorem mixB_at : ∀ (vs : List GVar) (fs xs : List Int) (i : Nat) (hi : i < vs.length), vs.length = fs.length → vs.length = xs.length → (mixB vs fs xs).getD i 0 = if vs[i].cls = 4 then xs.getD i 0 else fs.getD i 0
  | [], _, _, _, hi, _, _ => by cases hi
  | _ :: _, [], _, _, _, h, _ => by cases h
  | _ :: _, _ :: _, [], _, _, _, h => by cases h
  | v :: vs, f :: fs, x :: xs, 0, _, _, _ => by
    simp only [mixB, List.getD_cons_zero, List.getElem_cons_zero]
  | v :: vs, f :: fs, x :: xs, i + 1, hi, h, h2 => by
    have := mixB_at vs fs xs i (by simpa using hi) (by simpa using h) (by simpa using h2)
    simpa only [mixB, List.getD_cons_succ, List.getElem_cons_succ] using this
/-- A restart of what a right state keeps. -/
theorem rest_ok {c : GCode} (h0 : (spotsB c).2.2 = 0) {s : GPlant} (hf : fitsS c s = true) :
    restB c (keptB c s) = (⟨mixB c.vars (firstB c).vars s.vars, (firstB c).blocks⟩, 0) ∧ fitsS c ⟨mixB c.vars (firstB c).vars s.vars, (firstB c).blocks⟩ = true ∧ keptB c ⟨mixB c.vars (firstB c).vars s.vars, (firstB c).blocks⟩ = keptB c s ∧ restB c (keptB c s ++ [0]) = (⟨[], []⟩, 161) := by
  have hk : keptB c s = ofB 4 c.vars s.vars := by unfold keptB rightS; rw [hf, decide_eq_true h0]; rfl
  have hff := first_fits h0
  have hl : c.vars.length = (firstB c).vars.length := (fits_len hff).1
  have hfv := hf
  unfold fitsS tysOf at hfv
  simp only [Bool.and_eq_true] at hfv
  obtain ⟨e1, e2⟩ := put_kept c.vars (firstB c).vars s.vars hl hfv.1
  have hfm : fitsS c ⟨mixB c.vars (firstB c).vars s.vars, (firstB c).blocks⟩ = true := by
    unfold fitsS tysOf at hff ⊢
    simp only [Bool.and_eq_true] at hff ⊢
    exact ⟨putB_in 4 _ _ _ _ hff.1 e1, hff.2⟩
  refine ⟨?_, hfm, ?_, ?_⟩
  · unfold restB restR
    rw [if_neg (by rw [h0]; decide), hk, e1]
  · rw [hk]
    unfold keptB rightS
    rw [hfm, decide_eq_true h0]
    exact e2
  · unfold restB restR
    rw [if_neg (by rw [h0]; decide), hk, put_more _ _ _ _ 0 e1 hl]
/-- Where a value of a class lies among its class's values. -/
theorem ofB_at (k : Int) : ∀ (vs : List GVar) (xs : List Int) (i : Nat) (hi : i < vs.length), vs.length = xs.length → vs[i].cls = k → (ofB k vs xs).getD (ofB k (vs.take i) (xs.take i)).length 0 = xs.getD i 0 ∧ (ofB k (vs.take i) (xs.take i)).length < (ofB k vs xs).length
  | [], _, _, hi, _, _ => by cases hi
  | _ :: _, [], _, _, h, _ => by cases h
  | v :: vs, x :: xs, 0, _, _, hc => by
    have hc' : v.cls = k := hc
    have e : ofB k (v :: vs) (x :: xs) = x :: ofB k vs xs := by simp only [ofB]; rw [if_pos hc']
    have e0 : ofB k ((v :: vs).take 0) ((x :: xs).take 0) = [] := by simp [ofB]
    rw [e, e0]
    exact ⟨rfl, by simp⟩
  | v :: vs, x :: xs, i + 1, hi, h, hc => by
    obtain ⟨i1, i2⟩ := ofB_at k vs xs i (by simpa using hi) (by simpa using h) (by simpa using hc)
    by_cases hv : v.cls = k
    · have e : ofB k (v :: vs) (x :: xs) = x :: ofB k vs xs := by simp only [ofB]; rw [if_pos hv]
      have e0 : ofB k ((v :: vs).take (i + 1)) ((x :: xs).take (i + 1)) = x :: ofB k (vs.take i) (xs.take i) := by simp only [List.take_succ_cons, ofB]; rw [if_pos hv]
      rw [e, e0]
      exact ⟨by simpa using i1, by simpa using i2⟩
    · have e : ofB k (v :: vs) (x :: xs) = ofB k vs xs := by simp only [ofB]; rw [if_neg hv]
      have e0 : ofB k ((v :: vs).take (i + 1)) ((x :: xs).take (i + 1)) = ofB k (vs.take i) (xs.take i) := by simp only [List.take_succ_cons, ofB]; rw [if_neg hv]
      rw [e, e0]
      exact ⟨by simpa using i1, i2⟩
end Go.Proofs.Ytiogpainajokkaa

namespace Go.Proofs.Ytiogpainajokkaa
open Go.RowKit
/-- Two boxes: a program and a state. -/
structure RgBox (w W : World) (c : GCode) (vs bs is sv sb : Value) : Prop where
  r1 : W.heap[w.heap.size]? = some (.cells #[.string c.name, vs, bs, is] 26 (0, 0))
  r2 : W.heap[w.heap.size + 1]? = some (.cells #[sv, sb] 34 (0, 0))
  lt : w.heap.size + 1 < W.heap.size
  bel : Below w.heap.size w W
section
variable {w W W' : World} {c : GCode} {vs bs is sv sb : Value}
theorem RgBox.below (h : RgBox w W c vs bs is sv sb) (hb : Below W.heap.size W W') : RgBox w W' c vs bs is sv sb := by
  have lt := h.lt
  exact ⟨(hb.block _ (by omega)).trans h.r1, (hb.block _ (by omega)).trans h.r2, Nat.lt_of_lt_of_le h.lt hb.size, h.bel.trans (hb.mono h.bel.size)⟩
theorem RgBox.cells (h : RgBox w W c vs bs is sv sb) : (W.cell? ⟨w.heap.size, 0, none⟩ = some (.string c.name) ∧ W.cell? ⟨w.heap.size, 1, none⟩ = some vs ∧ W.cell? ⟨w.heap.size, 2, none⟩ = some bs ∧ W.cell? ⟨w.heap.size, 3, none⟩ = some is) ∧ W.cell? ⟨w.heap.size + 1, 0, none⟩ = some sv ∧ W.cell? ⟨w.heap.size + 1, 1, none⟩ = some sb :=
  ⟨⟨cell_of_row _ _ 0 _ _ _ h.r1, cell_of_row _ _ 1 _ _ _ h.r1, cell_of_row _ _ 2 _ _ _ h.r1, cell_of_row _ _ 3 _ _ _ h.r1⟩, cell_of_row _ _ 0 _ _ _ h.r2, cell_of_row _ _ 1 _ _ _ h.r2⟩
theorem rg_box (w : World) (c : GCode) (vs bs is sv sb : Value) : ∃ W, W = (w.alloc (.cells #[.string c.name, vs, bs, is] 26)).alloc (.cells #[sv, sb] 34) ∧ RgBox w W c vs bs is sv sb := by
  obtain ⟨b, r1, r2, z⟩ := two_blocks w (.cells #[.string c.name, vs, bs, is] 26) (.cells #[sv, sb] 34)
  exact ⟨_, rfl, r1, r2, by omega, b⟩
end
set_option maxHeartbeats 2000000 in
set_option maxRecDepth 100000 in
theorem sright_any (c : GCode) (hw : c.Wf) (hn : (c.ins.length : Int) < 9223372036854775807) (s : GPlant) (vs bs is sv sb : Value) (w : World) (h : CodeRd w c vs bs is) (hs : PlRd w s sv sb) :
    Calls Try.prog 24 #[.agg #[.string c.name, vs, bs, is], .agg #[sv, sb]] w fun e w' => e = .returned (.bool (rightS c s)) ∧ Below w.heap.size w w' := by
  obtain ⟨A1, c1, rfl⟩ : ∃ A c', vs = .slice A c.vars.length c' := by obtain ⟨_, A, c', h, _⟩ := h.vars; exact ⟨A, c', h⟩
  obtain ⟨A2, c2, rfl⟩ : ∃ A c', bs = .slice A c.blocks.length c' := by obtain ⟨_, A, c', h, _⟩ := h.blocks; exact ⟨A, c', h⟩
  obtain ⟨A3, c3, rfl⟩ : ∃ A c', is = .slice A c.ins.length c' := by obtain ⟨_, A, c', h, _⟩ := h.ins; exact ⟨A, c', h⟩
  obtain ⟨A4, c4, rfl⟩ : ∃ A c', sv = .slice A s.vars.length c' := by obtain ⟨_, A, c', h, _⟩ := hs.v; exact ⟨A, c', h⟩
  obtain ⟨A5, c5, rfl⟩ : ∃ A c', sb = .slice A s.blocks.length c' := by obtain ⟨_, A, c', h, _⟩ := hs.b; exact ⟨A, c', h⟩
  obtain ⟨wb, hwb, bx⟩ := rg_box w c (.slice A1 c.vars.length c1) (.slice A2 c.blocks.length c2) (.slice A3 c.ins.length c3) (.slice A4 s.vars.length c4) (.slice A5 s.blocks.length c5)
  have BX := Fact.mk bx
  have SP := Fact.mk (fun W (hW : Below w.heap.size w W) => spots_any c hw hn _ _ _ W (h.below hW))
  have FT := Fact.mk (fun W (hW : Below w.heap.size w W) => sfits_any c s _ _ _ _ _ W (h.below hW) (hs.below hW))
  obtain ⟨er, her⟩ : ∃ er, (spotsB c).2.2 = er := ⟨_, rfl⟩
  obtain ⟨ft, hft⟩ : ∃ ft, fitsS c s = ft := ⟨_, rfl⟩
  obtain ⟨rr, hrr⟩ : ∃ rr, rightS c s = rr := ⟨_, rfl⟩
  have HR : Fact (rr = (decide (er = 0) && ft)) := ⟨by rw [← hrr]; unfold rightS; rw [her, hft]⟩
  rw [hrr]
  rw [hft] at FT
  have HE := Fact.mk her
  clear bx h hs hw hn her hft hrr
  go_enter Try.func24, Try.ntmps24
  go_upto_region 1 with (fail)
  rw [← hwb]
  obtain ⟨⟨k0, k1, k2, k3⟩, k4, k5⟩ := BX.out.cells
  have lb := BX.out.lt
  clear hwb
  go_wp2_with fail
  refine (SP.out _ BX.out.bel).mono ?_
  rintro e W1 ⟨v, rfl, hsp, hb1⟩
  have hv : ∃ A n c, v = .slice A n c := by
    rcases hsp with ⟨h, _⟩ | ⟨S, _, h, _⟩
    · exact ⟨_, _, _, h⟩
    · exact ⟨_, _, _, h⟩
  obtain ⟨AP, nP, cP, rfl⟩ := hv
  have B1 := Fact.mk (BX.out.below hb1)
  clear hsp hb1 k0 k1 k2 k3 k4 k5 lb BX SP
  rw [HE.out]
  obtain ⟨⟨k0, k1, k2, k3⟩, k4, k5⟩ := B1.out.cells
  have lb := B1.out.lt
  by_cases h0 : er = 0
  · obtain rfl : rr = ft := by rw [HR.out, decide_eq_true h0]; rfl
    have e0 : (er == 0) = true := beq_iff_eq.2 h0
    clear h0 HE
    go_wp2_with fail
    refine (FT.out _ B1.out.bel).mono ?_
    rintro e W2 ⟨rfl, hb2⟩
    have B2 := Fact.mk (B1.out.below hb2).bel
    clear hb2 FT B1 k0 k1 k2 k3 k4 k5 lb
    go_wp2
    go_ret
    exact ⟨rfl, B2.out⟩
  · obtain rfl : rr = false := by rw [HR.out, decide_eq_false h0]; rfl
    have e0 : (er == 0) = false := beq_eq_false_iff_ne.2 h0
    have B2 := Fact.mk B1.out.bel
    clear h0 HE B1 FT k0 k1 k2 k3 k4 k5 lb
    go_wp2
    go_ret
    exact ⟨rfl, B2.out⟩
set_option maxHeartbeats 2000000 in
set_option maxRecDepth 100000 in
theorem skept_any (c : GCode) (hw : c.Wf) (hn : (c.ins.length : Int) < 9223372036854775807) (s : GPlant) (vs bs is sv sb : Value) (w : World) (h : CodeRd w c vs bs is) (hs : PlRd w s sv sb) :
    Calls Try.prog 26 #[.agg #[.string c.name, vs, bs, is], .agg #[sv, sb]] w fun e w' => ∃ O, e = .returned O ∧ Own 2 1 oneI64 w' w.heap.size O (keptB c s) ∧ Below w.heap.size w w' := by
  obtain ⟨A1, c1, rfl⟩ : ∃ A c', vs = .slice A c.vars.length c' := by obtain ⟨_, A, c', h, _⟩ := h.vars; exact ⟨A, c', h⟩
  obtain ⟨A2, c2, rfl⟩ : ∃ A c', bs = .slice A c.blocks.length c' := by obtain ⟨_, A, c', h, _⟩ := h.blocks; exact ⟨A, c', h⟩
  obtain ⟨A3, c3, rfl⟩ : ∃ A c', is = .slice A c.ins.length c' := by obtain ⟨_, A, c', h, _⟩ := h.ins; exact ⟨A, c', h⟩
  obtain ⟨A4, c4, rfl⟩ : ∃ A c', sv = .slice A s.vars.length c' := by obtain ⟨_, A, c', h, _⟩ := hs.v; exact ⟨A, c', h⟩
  obtain ⟨A5, c5, rfl⟩ : ∃ A c', sb = .slice A s.blocks.length c' := by obtain ⟨_, A, c', h, _⟩ := hs.b; exact ⟨A, c', h⟩
  obtain ⟨wb, hwb, bx⟩ := rg_box w c (.slice A1 c.vars.length c1) (.slice A2 c.blocks.length c2) (.slice A3 c.ins.length c3) (.slice A4 s.vars.length c4) (.slice A5 s.blocks.length c5)
  have BX := Fact.mk bx
  have RG := Fact.mk (fun W (hW : Below w.heap.size w W) => sright_any c hw hn s _ _ _ _ _ W (h.below hW) (hs.below hW))
  have OF := Fact.mk (fun W (hW : Below w.heap.size w W) (hr : rightS c s = true) => of_any c s _ _ _ _ _ 4 W (h.below hW) (hs.below hW) (by unfold rightS at hr; simp only [Bool.and_eq_true, decide_eq_true_eq] at hr; exact (fits_len hr.2).1) (by unfold rightS at hr; simp only [Bool.and_eq_true, decide_eq_true_eq] at hr; have := (right_parts (spots_right hr.1)).2.1; omega))
  obtain ⟨g, hg⟩ : ∃ g, rightS c s = g := ⟨_, rfl⟩
  have HK : Fact (keptB c s = if g = true then ofB 4 c.vars s.vars else []) := ⟨by unfold keptB; rw [hg]⟩
  rw [hg] at RG OF
  clear bx h hs hw hn hg
  obtain ⟨kp, hkp⟩ : ∃ kp, keptB c s = kp := ⟨_, rfl⟩
  rw [hkp] at HK ⊢
  clear hkp
  go_enter Try.func26, Try.ntmps26
  go_upto_region 1 with (fail)
  rw [← hwb]
  obtain ⟨⟨k0, k1, k2, k3⟩, k4, k5⟩ := BX.out.cells
  have lb := BX.out.lt
  clear hwb
  go_wp2_with fail
  refine (RG.out _ BX.out.bel).mono ?_
  rintro e W1 ⟨rfl, hb1⟩
  have B1 := Fact.mk (BX.out.below hb1)
  clear hb1 k0 k1 k2 k3 k4 k5 lb BX RG
  obtain ⟨⟨k0, k1, k2, k3⟩, k4, k5⟩ := B1.out.cells
  have lb := B1.out.lt
  cases g with
  | true =>
    obtain rfl : kp = ofB 4 c.vars s.vars := HK.out
    go_wp2_with fail
    refine (OF.out _ B1.out.bel (by simp)).mono ?_
    rintro e W2 ⟨O, rfl, ho, hb2⟩
    obtain ⟨AO, nO, cO, rfl⟩ := ho.slice
    have HO := Fact.mk (ho.lower B1.out.bel.size)
    have B2 := Fact.mk (B1.out.below hb2).bel
    clear hb2 OF B1 k0 k1 k2 k3 k4 k5 lb ho
    go_wp2
    go_ret
    exact ⟨_, rfl, HO.out, B2.out⟩
  | false =>
    obtain rfl : kp = [] := HK.out
    have B2 := Fact.mk B1.out.bel
    clear OF B1 k0 k1 k2 k3 k4 k5 lb
    go_wp2
    go_ret
    exact ⟨_, rfl, Own.nil _ _ _ _ _, B2.out⟩
/-- Values put into a state in a box. -/
theorem rput_any (w0 W : World) (P : Nat) (c : GCode) (vs bs is V B lv : Value) (s : GPlant) (ins : List Int) (kk : Int) (h : CodeRd w0 c vs bs is) (hi : Rd oneI64 1 w0 lv ins) (hb : Below w0.heap.size w0 W)
    (hP : W.heap[P]? = some (.cells #[V, B] 34 (0, 0))) (ho : PlOwn w0.heap.size W s V B) (hl : c.vars.length = s.vars.length) (h1 : c.vars.length ≤ 100000) :
    Calls Try.prog 47 #[.agg #[.string c.name, vs, bs, is], .pointer (some ⟨P, 0, none⟩), .int .u8 kk, lv] W fun e w' => e = .returned (.bool (putB kk c.vars s.vars ins).isSome) ∧ Below w0.heap.size w0 w' ∧ (∀ (k : Nat) (cs : Array Value) (T : TypeId), W.heap[k]? = some (Obj.cells cs T (0, 0)) → T ≠ 2 → w'.heap[k]? = W.heap[k]?) ∧ W.heap.size ≤ w'.heap.size ∧ ∀ cur, putB kk c.vars s.vars ins = some cur → PlOwn w0.heap.size w' ⟨cur, s.blocks⟩ V B := by
  by_cases hz : s.vars.length = 0
  · have e1 : s.vars = [] := List.length_eq_zero_iff.1 hz
    have e2 : c.vars = [] := List.length_eq_zero_iff.1 (by omega)
    refine (put_none W c vs bs is lv ⟨P, 0, none⟩ ins kk (h.below hb) (hi.below hb) e2).mono ?_
    rintro e w' ⟨rfl, hb2⟩
    refine ⟨by rw [e1], hb.trans (hb2.mono hb.size), fun k cs T hk _ => hb2.block k (Array.getElem?_eq_some_iff.1 hk).1, hb2.size, fun cur hc => ?_⟩
    have hc2 : cur = s.vars := by
      rw [e1, e2, putB_end] at hc
      rw [e1]
      by_cases hy : ins = []
      · rw [if_pos hy] at hc; injection hc with hc; exact hc.symm
      · rw [if_neg hy] at hc; cases hc
    rw [hc2]
    exact ho.below hb2
  · obtain ⟨A, q, rfl⟩ := ho.v.slice2
    obtain ⟨g, rfl, _⟩ := own_put ho.v 0 (by omega) 0
    obtain ⟨hgb, cur0, hg0⟩ := own_typed ho.v g rfl
    refine (put_some w0 W c vs bs is lv P 0 _ _ g q s.vars ins kk h hi hb hP (by decide) rfl ho.v hl h1).mono ?_
    rintro e w' ⟨rfl, hg, hf⟩
    have ty : ∀ (k : Nat) (cs : Array Value) (T : TypeId), W.heap[k]? = some (Obj.cells cs T (0, 0)) → T ≠ 2 → w'.heap[k]? = W.heap[k]? := fun k cs T hk hT => hg.block k (Array.getElem?_eq_some_iff.1 hk).1 (fun e => by
      cases e
      rw [hk] at hg0
      injection hg0 with h2
      injection h2 with _ e2 _
      exact hT e2)
    refine ⟨rfl, hb.grown hg hb.size (fun k hk => by cases hk; exact hgb), ty, hg.size, fun cur hc => ⟨hf cur hc, ho.b.move fun b hb2 => ?_⟩⟩
    obtain ⟨_, cs, h2⟩ := own_typed ho.b b hb2
    exact ty b cs _ h2 (by decide)
set_option maxHeartbeats 4000000 in
set_option maxRecDepth 100000 in
theorem srest_any (c : GCode) (hw : c.Wf) (hn : (c.ins.length : Int) < 9223372036854775807) (kept : List Int) (vs bs is lv : Value) (w : World) (h : CodeRd w c vs bs is) (hi : Rd oneI64 1 w lv kept) :
    Calls Try.prog 27 #[.agg #[.string c.name, vs, bs, is], lv] w (PlErr w (restB c kept)) := by
  obtain ⟨A1, c1, rfl⟩ : ∃ A c', vs = .slice A c.vars.length c' := by obtain ⟨_, A, c', h, _⟩ := h.vars; exact ⟨A, c', h⟩
  obtain ⟨A2, c2, rfl⟩ : ∃ A c', bs = .slice A c.blocks.length c' := by obtain ⟨_, A, c', h, _⟩ := h.blocks; exact ⟨A, c', h⟩
  obtain ⟨A3, c3, rfl⟩ : ∃ A c', is = .slice A c.ins.length c' := by obtain ⟨_, A, c', h, _⟩ := h.ins; exact ⟨A, c', h⟩
  obtain ⟨A6, c6, rfl⟩ : ∃ A c', lv = .slice A kept.length c' := by obtain ⟨_, A, c', h, _⟩ := hi; exact ⟨A, c', h⟩
  obtain ⟨wb, hwb, bx⟩ := rg_box w c (.slice A1 c.vars.length c1) (.slice A2 c.blocks.length c2) (.slice A3 c.ins.length c3) (.slice none 0 0) (.slice none 0 0)
  have BX := Fact.mk bx
  have SP := Fact.mk (fun W (hW : Below w.heap.size w W) => spots_any c hw hn _ _ _ W (h.below hW))
  have FI := Fact.mk (fun W (hW : Below w.heap.size w W) (hr : rightB c = true) => first_any c _ _ _ W (h.below hW) (by have := (right_parts hr).2.1; omega) (by have := (right_parts hr).2.2.1; omega) (blk_kinds hr))
  have PU := Fact.mk (fun W P V B (hW : Below w.heap.size w W) (hP : W.heap[P]? = some (.cells #[V, B] 34 (0, 0))) (ho : PlOwn w.heap.size W (firstB c) V B) (hl : c.vars.length = (firstB c).vars.length) (h1 : c.vars.length ≤ 100000) => rput_any w W P c _ _ _ V B _ (firstB c) kept 4 h hi hW hP ho hl h1)
  obtain ⟨er, her⟩ : ∃ er, (spotsB c).2.2 = er := ⟨_, rfl⟩
  obtain ⟨po, hpo⟩ : ∃ po, putB 4 c.vars (firstB c).vars kept = po := ⟨_, rfl⟩
  obtain ⟨r, hr⟩ : ∃ r, restB c kept = r := ⟨_, rfl⟩
  have HR : Fact (r = restR er po (firstB c).blocks) := ⟨by rw [← hr]; unfold restB; rw [her, hpo]⟩
  rw [hr]
  rw [hpo] at PU
  have HE := Fact.mk her
  clear bx h hi hw hn her hpo hr
  go_enter Try.func27, Try.ntmps27
  go_upto_region 1 with (fail)
  rw [← hwb]
  obtain ⟨⟨k0, k1, k2, k3⟩, k4, k5⟩ := BX.out.cells
  have lb := BX.out.lt
  clear hwb
  go_wp2_with fail
  refine (SP.out _ BX.out.bel).mono ?_
  rintro e W1 ⟨v, rfl, hsp, hb1⟩
  have hv : ∃ A n c, v = .slice A n c := by
    rcases hsp with ⟨h, _⟩ | ⟨S, _, h, _⟩
    · exact ⟨_, _, _, h⟩
    · exact ⟨_, _, _, h⟩
  obtain ⟨AP, nP, cP, rfl⟩ := hv
  have B1 := Fact.mk (BX.out.below hb1)
  clear hsp hb1 k0 k1 k2 k3 k4 k5 lb BX SP
  rw [HE.out]
  obtain ⟨⟨k0, k1, k2, k3⟩, k4, k5⟩ := B1.out.cells
  have lb := B1.out.lt
  by_cases h0 : er = 0
  · subst h0
    have hR := spots_right HE.out
    go_wp2_with fail
    refine (FI.out _ B1.out.bel hR).mono ?_
    rintro e W2 ⟨V, B, rfl, ho, hb2⟩
    obtain ⟨AV, nV, cV, rfl⟩ := ho.v.slice
    obtain ⟨AB, nB, cB, rfl⟩ := ho.b.slice
    obtain ⟨b4, r4, z4⟩ := one_block W2 (.cells #[.slice AV nV cV, .slice AB nB cB] 34)
    have B4 := Fact.mk ((B1.out.below hb2).below b4)
    have CP := Fact.mk (PU.out _ W2.heap.size _ _ B4.out.bel r4 ((ho.below b4).lower B1.out.bel.size) (fits_len (first_fits HE.out)).1 (by have := (right_parts hR).2.1; omega))
    have R4 := Fact.mk r4
    have L4 : W2.heap.size < (W2.alloc (.cells #[.slice AV nV cV, .slice AB nB cB] 34)).heap.size := by rw [z4]; omega
    have NE : w.heap.size + 1 < W2.heap.size := Nat.lt_of_lt_of_le B1.out.lt hb2.size
    clear k0 k1 k2 k3 k4 k5 lb ho hb2 b4 r4 z4 PU FI B1 hR
    go_upto_region 5 with (fail)
    generalize W2.alloc (.cells #[.slice AV nV cV, .slice AB nB cB] 34) = w4 at *
    generalize W2.heap.size = P at *
    obtain ⟨⟨k0, k1, k2, k3⟩, k4, k5⟩ := B4.out.cells
    have lb := B4.out.lt
    go_wp2_with fail
    refine CP.out.mono ?_
    rintro e W5 ⟨rfl, hb5, hty, hsz, hown⟩
    have rB := (hty _ _ _ B4.out.r2 (by decide)).trans B4.out.r2
    have rP := (hty _ _ _ R4.out (by decide)).trans R4.out
    have HO := Fact.mk hown
    have u0 : W5.cell? ⟨w.heap.size + 1, 0, none⟩ = some (.slice none 0 0) := cell_of_row _ _ 0 _ _ _ rB
    have u1 : W5.cell? ⟨w.heap.size + 1, 1, none⟩ = some (.slice none 0 0) := cell_of_row _ _ 1 _ _ _ rB
    have v0 := frozen_of_row _ _ 0 _ _ rB
    have v1 := frozen_of_row _ _ 1 _ _ rB
    have q0 : W5.cell? ⟨P, 0, none⟩ = some (.slice AV nV cV) := cell_of_row _ _ 0 _ _ _ rP
    have q1 : W5.cell? ⟨P, 1, none⟩ = some (.slice AB nB cB) := cell_of_row _ _ 1 _ _ _ rP
    have l5 : w.heap.size + 1 < W5.heap.size := Nat.lt_of_lt_of_le lb hsz
    have lP : P < W5.heap.size := Nat.lt_of_lt_of_le L4 hsz
    clear k0 k1 k2 k3 k4 k5 lb hown hty B4 R4 CP L4
    cases po with
    | none =>
      obtain rfl : r = (⟨[], []⟩, 161) := HR.out.trans (if_neg (by decide))
      have s0 := set2_0 (u := .slice none 0 0) rB
      have s1 := Fact.mk (set2_1 (u := .slice none 0 0) s0)
      have BF := Fact.mk ((hb5.setCell (p := ⟨w.heap.size + 1, 0, none⟩) (Nat.le_succ _) (.slice none 0 0)).setCell (p := ⟨w.heap.size + 1, 1, none⟩) (Nat.le_succ _) (.slice none 0 0))
      clear rB rP s0 hb5 HO q0 q1
      go_wp2
      exact bodyPost_ret (res_cell_tmp Try.results27 _ _ (w.heap.size + 1) rfl s1.out Try.underlying34 rfl Try.sizePlant) rfl ⟨_, _, rfl, ⟨Own.nil _ _ _ _ _, Own.nil _ _ _ _ _⟩, BF.out⟩
    | some cur =>
      obtain rfl : r = (⟨cur, (firstB c).blocks⟩, 0) := HR.out.trans (if_neg (by decide))
      have ho := HO.out cur rfl
      have s0 := set2_0 (u := .slice AV nV cV) rB
      have s1 := Fact.mk (set2_1 (u := .slice AB nB cB) s0)
      have oV := Fact.mk ((ho.v.set rB (by decide) 0 (.slice AV nV cV)).set s0 (by decide) 1 (.slice AB nB cB))
      have oB := Fact.mk ((ho.b.set rB (by decide) 0 (.slice AV nV cV)).set s0 (by decide) 1 (.slice AB nB cB))
      have BF := Fact.mk ((hb5.setCell (p := ⟨w.heap.size + 1, 0, none⟩) (Nat.le_succ _) (.slice AV nV cV)).setCell (p := ⟨w.heap.size + 1, 1, none⟩) (Nat.le_succ _) (.slice AB nB cB))
      clear rB rP s0 hb5 HO ho
      go_wp2
      exact bodyPost_ret (res_cell_tmp Try.results27 _ _ (w.heap.size + 1) rfl s1.out Try.underlying34 rfl Try.sizePlant) rfl ⟨_, _, rfl, ⟨oV.out, oB.out⟩, BF.out⟩
  · have hb : (er != 0) = true := bne_iff_ne.2 h0
    obtain rfl : r = (⟨[], []⟩, er) := HR.out.trans (if_pos h0)
    have rR := B1.out.r2
    have u0 : W1.cell? ⟨w.heap.size + 1, 0, none⟩ = some (.slice none 0 0) := cell_of_row _ _ 0 _ _ _ rR
    have u1 : W1.cell? ⟨w.heap.size + 1, 1, none⟩ = some (.slice none 0 0) := cell_of_row _ _ 1 _ _ _ rR
    have v0 := frozen_of_row _ _ 0 _ _ rR
    have v1 := frozen_of_row _ _ 1 _ _ rR
    have s0 := set2_0 (u := .slice none 0 0) rR
    have s1 := Fact.mk (set2_1 (u := .slice none 0 0) s0)
    have BF := Fact.mk ((B1.out.bel.setCell (p := ⟨w.heap.size + 1, 0, none⟩) (Nat.le_succ _) (.slice none 0 0)).setCell (p := ⟨w.heap.size + 1, 1, none⟩) (Nat.le_succ _) (.slice none 0 0))
    clear rR s0 k0 k1 k2 k3 k4 k5 h0 HR HE PU FI
    go_wp2
    exact bodyPost_ret (res_cell_tmp Try.results27 _ _ (w.heap.size + 1) rfl s1.out Try.underlying34 rfl Try.sizePlant) rfl ⟨_, _, rfl, ⟨Own.nil _ _ _ _ _, Own.nil _ _ _ _ _⟩, BF.out⟩
end Go.Proofs.Ytiogpainajokkaa

namespace Go.Proofs.Ytiogpainajokkaa
open Go.RowKit
set_option maxHeartbeats 4000000 in
set_option maxRecDepth 100000 in
theorem fit_any (c : GCode) (l : List Int) (vs bs is lv : Value) (w : World) (h : CodeRd w c vs bs is) (hi : Rd oneI64 1 w lv l) (h1 : c.vars.length ≤ 100000) :
    Calls Try.prog 43 #[.agg #[.string c.name, vs, bs, is], lv] w fun e w' => ∃ O, e = .returned O ∧ Own 2 1 oneI64 w' w.heap.size O (fitB c.vars l) ∧ Below w.heap.size w w' := by
  obtain ⟨i0, hi0, hz0, hz1, hz2⟩ := i64_info
  obtain ⟨A1, c1, rfl⟩ : ∃ A c', vs = .slice A c.vars.length c' := by obtain ⟨_, A, c', h, _⟩ := h.vars; exact ⟨A, c', h⟩
  obtain ⟨A2, c2, rfl⟩ : ∃ A c', bs = .slice A c.blocks.length c' := by obtain ⟨_, A, c', h, _⟩ := h.blocks; exact ⟨A, c', h⟩
  obtain ⟨A3, c3, rfl⟩ : ∃ A c', is = .slice A c.ins.length c' := by obtain ⟨_, A, c', h, _⟩ := h.ins; exact ⟨A, c', h⟩
  obtain ⟨A6, c6, rfl⟩ : ∃ A c', lv = .slice A l.length c' := by obtain ⟨_, A, c', h, _⟩ := hi; exact ⟨A, c', h⟩
  obtain ⟨b1, r1, z1⟩ := one_block w (.cells #[.string c.name, .slice A1 c.vars.length c1, .slice A2 c.blocks.length c2, .slice A3 c.ins.length c3] 26)
  have B2 := Fact.mk b1
  have R2 := Fact.mk r1
  have Z2 := Fact.mk z1
  have RV := Fact.mk h.vars
  have RL := Fact.mk hi
  have HL := Fact.mk h1
  clear b1 r1 z1 h hi h1
  go_enter Try.func43, Try.ntmps43
  go_upto_region 2 with (fail)
  generalize (w.alloc (.cells #[.string c.name, .slice A1 c.vars.length c1, .slice A2 c.blocks.length c2, .slice A3 c.ins.length c3] 26)) = w2 at *
  have k1 : w2.cell? ⟨w.heap.size, 1, none⟩ = some (.slice A1 c.vars.length c1) := cell_of_row _ _ 1 _ _ _ R2.out
  have l1 : w.heap.size < w2.heap.size := by rw [Z2.out]; omega
  go_wp2_with fail
  go_loopw [5, 12] (fun o i wr => ∃ k : Nat, k ≤ c.vars.length ∧ i = .int .i64 k ∧ Fact (Own 2 1 oneI64 wr w2.heap.size o (fitB (c.vars.take k) l)) ∧ Fact (Below w2.heap.size w2 wr)) (fun _ i _ => c.vars.length - (intOf i).toNat)
  case atStart => exact ⟨0, Nat.zero_le _, rfl, ⟨Own.nil _ _ _ _ _⟩, ⟨Below.refl _ _⟩⟩
  case round =>
    obtain ⟨k, hk, rfl, HO, HB⟩ := hrel
    by_cases hlt : k < c.vars.length
    · obtain ⟨_, A, c', e, _, _, q1⟩ := RV.out
      cases e
      obtain ⟨b1, o1, rfl, r1⟩ := q1 (by omega)
      have HB' := Fact.mk (B2.out.trans (HB.out.mono B2.out.size))
      have d0 : wr.cell? ⟨b1, o1 + k * 4, none⟩ = some (.string c.vars[k].name) := cell_below HB'.out _ _ (r1 k hlt 0 _ rfl)
      have d1 : wr.cell? ⟨b1, o1 + k * 4 + 1, none⟩ = some (.int .u8 c.vars[k].cls) := cell_below HB'.out _ _ (r1 k hlt 1 _ rfl)
      have d2 : wr.cell? ⟨b1, o1 + k * 4 + 2, none⟩ = some (.int .u8 c.vars[k].ty) := cell_below HB'.out _ _ (r1 k hlt 2 _ rfl)
      have d3 : wr.cell? ⟨b1, o1 + k * 4 + 3, none⟩ = some (.int .i64 c.vars[k].first) := cell_below HB'.out _ _ (r1 k hlt 3 _ rfl)
      have i1 : (k : Int) < (c.vars.length : Int) := by omega
      have HT := Fact.mk (fitB_take (l := l) hlt)
      have HN : Fact ((fitB (c.vars.take k) l).length ≤ 100000) := ⟨by have := fitB_len (c.vars.take k) l; have := HL.out; rw [List.length_take] at *; omega⟩
      have NX : Fact (k + 1 ≤ c.vars.length) := ⟨hlt⟩
      have RL2 := Fact.mk (RL.out.below HB'.out)
      clear q1 r1
      generalize c.vars[k] = v at d0 d1 d2 d3 HT
      generalize fitB (c.vars.take k) l = os at HO HT HN
      obtain ⟨AO, cO, rfl⟩ := HO.out.slice2
      have BV := Fact.mk (one_block wr (.cells #[.string v.name, .int .u8 v.cls, .int .u8 v.ty, .int .i64 v.first] 43))
      by_cases hc : v.cls = 1
      · have e1 : (v.cls != 1) = false := by rw [hc]; rfl
        have HT2 := Fact.mk (HT.out.trans (by rw [if_pos hc]))
        have RL6 := Fact.mk (RL2.out.below BV.out.1)
        clear hc HT RL2
        go_upto_region 6 with (fail)
        have O6 := Fact.mk (HO.out.below BV.out.1)
        have B6 := Fact.mk (HB.out.trans (BV.out.1.mono HB.out.size))
        have g2 := cell_of_row _ _ 2 _ _ _ BV.out.2.1
        have lg : wr.heap.size < (wr.alloc (.cells #[.string v.name, .int .u8 v.cls, .int .u8 v.ty, .int .i64 v.first] 43)).heap.size := by rw [BV.out.2.2]; omega
        clear d0 d1 d2 d3 BV HO HB
        generalize wr.alloc (.cells #[.string v.name, .int .u8 v.cls, .int .u8 v.ty, .int .i64 v.first] 43) = w6 at *
        have fin : ∀ n : Int, l.getD os.length 0 = n → Fact (fitB (c.vars.take (k + 1)) l = os ++ [wrapOf v.ty n]) := fun n hn => ⟨by rw [HT2.out, hn]⟩
        have HW := Fact.mk (fun n W => wrap_any v.ty n W)
        by_cases hL : os.length < l.length
        · have i2 : (os.length : Int) < (l.length : Int) := by omega
          obtain ⟨bl, ol, cl, e, hcl⟩ := rd_at64 RL6.out os.length hL
          cases e
          have lbl := World.block_lt_of_cell? w6 _ hcl
          obtain ⟨x, hx⟩ : ∃ x, l.getD os.length 0 = x := ⟨_, rfl⟩
          rw [hx] at hcl
          have FN := fin x hx
          clear hL hx fin HT2 RL6
          go_wp2_with fail
          refine (HW.out _ _).mono ?_
          rintro e W7 ⟨rfl, rfl⟩
          go_wp2_with (at_builtin; refine wpList_pushR rfl _ _ 31 rfl w2.heap.size 2 i0 (.int .i64 0) 1 8 Try.underlying31 hi0 hz0 hz1 hz2 rfl (by decide) (by decide) oneI64 _ os rfl O6.out (wrapOf v.ty x) rfl rfl (oneI64_one _) (by have := HN.out; omega) B6.out.size ?_)
          intro v' W' ho' hr'
          obtain ⟨A', n', q', rfl⟩ := ho'.slice
          have O7 := Fact.mk ho'
          have B7 := Fact.mk (B6.out.grown hr'.g B6.out.size (fun k hk => (World.ownsRow.lt O6.out k hk).1))
          clear ho' hr'
          go_wp2_with fail
          go_roundw
          case rel => exact ⟨k + 1, NX.out, by go_num, ⟨by rw [FN.out]; exact O7.out⟩, B7⟩
          case measure => simp [intOf]; omega
        · have i2 : ¬ (os.length : Int) < (l.length : Int) := by omega
          have FN := fin 0 (by rw [List.getD_eq_getElem?_getD, List.getElem?_eq_none (by omega)]; rfl)
          clear hL fin HT2 RL6
          go_wp2_with fail
          refine (HW.out _ _).mono ?_
          rintro e W7 ⟨rfl, rfl⟩
          go_wp2_with (at_builtin; refine wpList_pushR rfl _ _ 31 rfl w2.heap.size 2 i0 (.int .i64 0) 1 8 Try.underlying31 hi0 hz0 hz1 hz2 rfl (by decide) (by decide) oneI64 _ os rfl O6.out (wrapOf v.ty 0) rfl rfl (oneI64_one _) (by have := HN.out; omega) B6.out.size ?_)
          intro v' W' ho' hr'
          obtain ⟨A', n', q', rfl⟩ := ho'.slice
          have O7 := Fact.mk ho'
          have B7 := Fact.mk (B6.out.grown hr'.g B6.out.size (fun k hk => (World.ownsRow.lt O6.out k hk).1))
          clear ho' hr'
          go_wp2_with fail
          go_roundw
          case rel => exact ⟨k + 1, NX.out, by go_num, ⟨by rw [FN.out]; exact O7.out⟩, B7⟩
          case measure => simp [intOf]; omega
      · have e1 : (v.cls != 1) = true := bne_iff_ne.2 hc
        have HT2 := Fact.mk (HT.out.trans (by rw [if_neg hc, List.append_nil]))
        clear hc HT
        go_wp2_with fail
        go_roundw
        case rel => exact ⟨k + 1, NX.out, by go_num, ⟨by rw [HT2.out]; exact HO.out.below BV.out.1⟩, ⟨HB.out.trans (BV.out.1.mono HB.out.size)⟩⟩
        case measure => simp [intOf]; omega
    · obtain rfl : k = c.vars.length := by omega
      have OO := HO.out
      rw [List.take_length] at OO
      have OF := Fact.mk (OO.lower B2.out.size)
      obtain ⟨AO, nO, cO, rfl⟩ := OO.slice
      clear OO
      go_wp2_with fail
      go_ret
      exact ⟨_, rfl, OF.out, B2.out.trans (HB.out.mono B2.out.size)⟩
end Go.Proofs.Ytiogpainajokkaa

namespace Go.Proofs.Ytiogpainajokkaa
open Go.RowKit
def encGo (a : Value × Int) : List Value := [a.1, .int .u16 a.2]
theorem encGo_len (a : Value × Int) : (encGo a).length = 2 := rfl
/-- What a scan that comes in is good for: its inputs are read, its ticks are such. -/
def GoOk (w : World) (a : Value × Int) : Prop := (∃ xs, Rd oneI64 1 w a.1 xs) ∧ 0 ≤ a.2 ∧ a.2 ≤ 65535
theorem Rd.atGo {w : World} {v : Value} {xs : List (Value × Int)} (h : Rd encGo 2 w v xs) (i : Nat) (hi : i < xs.length) : ∃ b off c, v = .slice (some ⟨b, off, none⟩) xs.length c ∧ w.cell? ⟨b, off + i * 2, none⟩ = some xs[i].1 ∧ w.cell? ⟨b, off + i * 2 + 1, none⟩ = some (.int .u16 xs[i].2) := by
  obtain ⟨h0, A, c, rfl, h2, h4, h3⟩ := h
  obtain ⟨b, off, rfl, hc⟩ := h3 (by omega)
  exact ⟨b, off, c, rfl, hc i hi 0 _ rfl, hc i hi 1 _ rfl⟩
/-- What the closure is told. -/
structure Told (w W : World) (c : GCode) (s s' : GPlant) (ins out : List Int) (n : Nat) (now e : Int) (V B V' B' I O : Value) : Prop where
  bel : Below w.heap.size w W
  fits : fitsS c s = true
  n1 : 0 ≤ now
  n2 : now ≤ 1125899906842624
  hin : ∃ l, ins = fitB c.vars l
  scan : scanB c s ins now = (s', out, n, e)
  rs : PlRd W s V B
  rt : PlRd W s' V' B'
  ri : Rd oneI64 1 W I ins
  ro : Rd oneI64 1 W O out
/-- The loop's state. -/
structure PlySt (w wr : World) (X P : Nat) (c : GCode) (vs bs is : Value) (s : GPlant) (now : Int) (k : Nat) (V B : Value) : Prop where
  bel : Below w.heap.size w wr
  code : wr.heap[X]? = some (.cells #[.string c.name, vs, bs, is] 26 (0, 0))
  row : wr.heap[P]? = some (.cells #[V, B] 34 (0, 0))
  lo : w.heap.size ≤ P
  ne : X ≠ P
  own : PlOwn w.heap.size wr s V B
  fits : fitsS c s = true
  n1 : 0 ≤ now
  n2 : now ≤ 65535 * (k : Int)
theorem PlySt.next {w wr W : World} {X P : Nat} {c : GCode} {vs bs is : Value} {s s' : GPlant} {now now' : Int} {k : Nat} {V B V' B' : Value} (h : PlySt w wr X P c vs bs is s now k V B) (hb : Below wr.heap.size wr W) (ho : PlOwn wr.heap.size W s' V' B') (hf : fitsS c s' = true) (h1 : 0 ≤ now') (h2 : now' ≤ 65535 * ((k + 1 : Nat) : Int)) :
    PlySt w ((W.setCell ⟨P, 0, none⟩ V').setCell ⟨P, 1, none⟩ B') X P c vs bs is s' now' (k + 1) V' B' := by
  have lP : P < wr.heap.size := (Array.getElem?_eq_some_iff.1 h.row).1
  have lX : X < wr.heap.size := (Array.getElem?_eq_some_iff.1 h.code).1
  have r0 := (hb.block P lP).trans h.row
  have r1 := set2_0 (u := V') r0
  have r2 := set2_1 (u := B') r1
  have hW := h.bel.trans (hb.mono h.bel.size)
  exact ⟨(hW.setCell (p := ⟨P, 0, none⟩) h.lo V').setCell (p := ⟨P, 1, none⟩) h.lo B', (heap_setCell_other _ ⟨P, 1, none⟩ X B' h.ne).trans ((heap_setCell_other W ⟨P, 0, none⟩ X V' h.ne).trans ((hb.block X lX).trans h.code)), r2, h.lo, h.ne,
    ⟨((ho.v.lower h.bel.size).set r0 (by decide) 0 V').set r1 (by decide) 1 B', ((ho.b.lower h.bel.size).set r0 (by decide) 0 V').set r1 (by decide) 1 B'⟩, hf, h1, h2⟩
theorem i64_small {n : Int} (h : 0 ≤ n) (h2 : n ≤ 9223372036854775807) : IntKind.i64.wrap n = n := by
  simp only [IntKind.wrap, IntKind.bits, IntKind.signed]
  simp
  omega
theorem fits_short {c : GCode} (h0 : (spotsB c).2.2 = 0) {s : GPlant} (hf : fitsS c s = true) : s.vars.length ≤ 100000 ∧ s.blocks.length ≤ 100000 ∧ c.vars.length ≤ 100000 := by
  have hR := right_parts (spots_right h0)
  have := fits_len hf
  exact ⟨by omega, by omega, by omega⟩
end Go.Proofs.Ytiogpainajokkaa

