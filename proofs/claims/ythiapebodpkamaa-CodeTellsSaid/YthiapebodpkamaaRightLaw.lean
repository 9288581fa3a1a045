/- What a right program's parts are: plain laws. -/
import Derived.Test.YthiapebodpkamaaRightB
namespace Go.Proofs.Ythiapebodpkamaa
theorem idx_none {p : Nat → Bool} {n : Nat} (h : decide (0 ≤ idxFrom p n 0) = false) : ∀ i, i < n → p i = false := by
  intro i hi
  have h1 := of_decide_eq_false h
  cases hp : p i with
  | false => rfl
  | true => exact absurd ((idxFrom_any p n 0).2 ⟨i, by omega, by omega, hp⟩) h1
theorem range_bound (t : Int) : -2147483648 ≤ (rangeOf t).1 ∧ (rangeOf t).1 ≤ 0 ∧ 0 ≤ (rangeOf t).2 ∧ (rangeOf t).2 ≤ 4294967295 := by
  unfold rangeOf
  repeat' split
  all_goals simp
structure GoodVar (v : GVar) : Prop where
  name : 1 ≤ v.name.size ∧ v.name.size ≤ 40
  cls : 1 ≤ v.cls ∧ v.cls ≤ 4
  ty : 1 ≤ v.ty ∧ v.ty ≤ 5
  first : (rangeOf v.ty).1 ≤ v.first ∧ v.first ≤ (rangeOf v.ty).2
theorem good_of_wrong {l : List ByteArray} {v : GVar} (h : wrongB l v = false) : GoodVar v ∧ memB v.name l = false := by
  simp only [wrongB, Bool.or_eq_false_iff, Bool.not_eq_false', decide_eq_false_iff_not, namedB, typedB, withinB, Bool.and_eq_true, decide_eq_true_eq] at h
  obtain ⟨⟨⟨⟨⟨h1, h2⟩, h3⟩, h4⟩, h5⟩, h6⟩ := h
  exact ⟨⟨h2, by omega, h5, h6⟩, h1⟩
theorem right_parts {c : GCode} (h : rightB c = true) : (1 ≤ c.name.size ∧ c.name.size ≤ 40) ∧ c.vars.length ≤ 200 ∧ c.blocks.length ≤ 100 ∧ 1 ≤ c.ins.length ∧ c.ins.length ≤ 2000 ∧ (∀ i, (hi : i < c.vars.length) → GoodVar c.vars[i] ∧ memB c.vars[i].name (namesRev c.vars i) = false) ∧ (∀ i, (hi : i < c.blocks.length) → 1 ≤ c.blocks[i] ∧ c.blocks[i] ≤ 11) ∧ ∀ i, (hi : i < c.ins.length) → fitsB c c.ins[i] = true := by
  simp only [rightB, Bool.and_eq_true, Bool.not_eq_true', decide_eq_true_eq, namedB] at h
  obtain ⟨⟨⟨⟨⟨⟨⟨h0, h1⟩, h2⟩, h3⟩, h4⟩, h5⟩, h6⟩, h7⟩ := h
  refine ⟨h0, h1, h2, h3, h4, fun i hi => ?_, fun i hi => ?_, fun i hi => ?_⟩
  · have := idx_none h5 i hi
    simp only [varBad, List.getElem?_eq_getElem hi] at this
    exact good_of_wrong this
  · have := idx_none h6 i hi
    simp only [blockBad, List.getElem?_eq_getElem hi, oddB, Bool.or_eq_false_iff, decide_eq_false_iff_not] at this
    omega
  · have := idx_none h7 i hi
    simp only [insBad, List.getElem?_eq_getElem hi, Bool.not_eq_false'] at this
    exact this
theorem pins_len (k : Int) : (pinsOut k).length ≤ 3 := by
  refine Nat.le_trans (typesOf_len _) ?_
  unfold pinStr
  repeat' split
  all_goals simp
theorem chk_bound {c : GCode} {i : GIns} {ch : UInt8} {n : Int} (h : chk c i ch n = true) (hv : c.vars.length ≤ 200) (hb : c.blocks.length ≤ 100) (hi : c.ins.length ≤ 2000) : (-2147483648 ≤ n ∧ n ≤ 4294967295) ∧ (ch ≠ 110 → 0 ≤ n ∧ n ≤ 2000) := by
  have hp := pins_len (c.blocks.getD i.a.toNat 0)
  have hr := range_bound i.t
  unfold chk at h
  repeat' split at h
  all_goals first
    | (cases h; done)
    | (simp only [belowB, Bool.and_eq_true, decide_eq_true_eq] at h; omega)
    | (simp only [typedB, Bool.and_eq_true, decide_eq_true_eq] at h; omega)
    | (simp only [wholeB, typedB, Bool.and_eq_true, decide_eq_true_eq] at h; omega)
    | (simp only [storeB, belowB, Bool.and_eq_true, decide_eq_true_eq] at h; obtain ⟨⟨h1, h2⟩, _⟩ := h; omega)
    | (simp only [withinB, Bool.and_eq_true, decide_eq_true_eq] at h; rename_i h1; exact ⟨by omega, fun h2 => absurd h1 h2⟩)
structure GoodIns (i : GIns) : Prop where
  op : 1 ≤ i.op ∧ i.op ≤ 22
  t : 0 ≤ i.t ∧ i.t ≤ 2000
  a : 0 ≤ i.a ∧ i.a ≤ 2000
  n : -2147483648 ≤ i.n ∧ i.n ≤ 4294967295
theorem shape_op {o : Int} (h : shapeStr o ≠ []) : 1 ≤ o ∧ o ≤ 22 := by
  by_cases h1 : 1 ≤ o ∧ o ≤ 22
  · exact h1
  · exfalso
    apply h
    unfold shapeStr
    have n : ∀ k : Int, 1 ≤ k → k ≤ 22 → o ≠ k := fun k _ _ e => h1 (by omega)
    simp only [if_neg (n 1 (by omega) (by omega)), if_neg (n 2 (by omega) (by omega)), if_neg (n 3 (by omega) (by omega)), if_neg (n 4 (by omega) (by omega)), if_neg (n 5 (by omega) (by omega)), if_neg (n 6 (by omega) (by omega)), if_neg (n 7 (by omega) (by omega)), if_neg (n 8 (by omega) (by omega)), if_neg (n 9 (by omega) (by omega)), if_neg (n 10 (by omega) (by omega)), if_neg (n 11 (by omega) (by omega)), if_neg (n 12 (by omega) (by omega)), if_neg (n 13 (by omega) (by omega)), if_neg (n 14 (by omega) (by omega)), if_neg (n 15 (by omega) (by omega)), if_neg (n 16 (by omega) (by omega)), if_neg (n 17 (by omega) (by omega)), if_neg (n 18 (by omega) (by omega)), if_neg (n 19 (by omega) (by omega)), if_neg (n 20 (by omega) (by omega)), if_neg (n 21 (by omega) (by omega)), if_neg (n 22 (by omega) (by omega))]
theorem good_ins {c : GCode} {i : GIns} (h : fitsB c i = true) (hv : c.vars.length ≤ 200) (hb : c.blocks.length ≤ 100) (hi : c.ins.length ≤ 2000) : GoodIns i := by
  rcases shape_cases i.op with h0 | ⟨a0, a1, a2, hs, h0, h1, h2⟩
  · simp [fitsB, h0] at h
  · have ho : shapeStr i.op ≠ [] := by rw [hs]; simp
    simp only [fitsB, hs, Bool.and_eq_true] at h
    obtain ⟨⟨g0, g1⟩, g2⟩ := h
    have b0 := (chk_bound g0 hv hb hi).2 (by rcases h0 with h | h | h <;> (rw [h]; decide))
    have b1 := (chk_bound g1 hv hb hi).2 (by rcases h1 with h | h | h | h | h | h <;> (rw [h]; decide))
    exact ⟨shape_op ho, b0, b1, (chk_bound g2 hv hb hi).1⟩
end Go.Proofs.Ythiapebodpkamaa

