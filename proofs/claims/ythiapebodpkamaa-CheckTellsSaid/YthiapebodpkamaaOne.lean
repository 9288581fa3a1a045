/- One place gone over: the whole contract; what holds of all places on the way. -/
import Derived.Test.YthiapebodpkamaaOneE
import Derived.Test.YthiapebodpkamaaOneJ
import Derived.Test.YthiapebodpkamaaOneI
import Derived.Test.YthiapebodpkamaaOneN
import Derived.Test.YthiapebodpkamaaOneO
namespace Go.Proofs.Ythiapebodpkamaa
open Go.RowKit
/-- A program's instructions are as they should be. -/
def InsOk (c : GCode) : Prop := ∀ k (h : k < c.ins.length), (1 ≤ c.ins[k].op ∧ c.ins[k].op ≤ 22) ∧ fitsB c c.ins[k] = true
theorem ins_ok {c : GCode} (h : rightB c = true) : InsOk c := by
  obtain ⟨_, h1, h2, h3, h4, _, _, h5⟩ := right_parts h
  exact fun k hk => ⟨(good_ins (h5 k hk) h1 h2 h4).op, h5 k hk⟩
/-- What holds of all places on the way. -/
structure PlcOk (c : GCode) (ss : List GSpot) : Prop where
  len : ss.length = c.ins.length + 1
  room : ∀ j, (spotAt ss j).stack.length ≤ 64
  lo : ∀ j, 0 ≤ (spotAt ss j).steps
  hi : ∀ j, (spotAt ss j).steps ≤ j
theorem plc_start (c : GCode) : PlcOk c (start c.ins.length) := by
  have e : ∀ j, spotAt (start c.ins.length) j = ⟨true, [], 0⟩ ∨ spotAt (start c.ins.length) j = ⟨false, [], 0⟩ := by
    intro j
    cases j with
    | zero => exact .inl rfl
    | succ j =>
      refine .inr ?_
      unfold spotAt start
      rw [List.getD_cons_succ, List.getD_eq_getElem?_getD, List.getElem?_replicate]
      split <;> rfl
  refine ⟨by simp [start], fun j => ?_, fun j => ?_, fun j => ?_⟩
  all_goals rcases e j with h | h <;> rw [h] <;> simp
theorem plc_goes {c : GCode} {ss : List GSpot} (h : PlcOk c ss) {t : Nat} {st : List Int} {n : Int} (hs : st.length ≤ 64) (h0 : 0 ≤ n) (h1 : n ≤ t) : PlcOk c (goesTo ss t st n) := by
  have e : ∀ j, spotAt (goesTo ss t st n) j = spotAt ss j ∨ (j = t ∧ spotAt (goesTo ss t st n) j = ⟨true, st, max (spotAt ss t).steps n⟩) := by
    intro j
    by_cases hj : j = t
    · subst hj
      by_cases hl : j < ss.length
      · exact .inr ⟨rfl, goesTo_at hl⟩
      · refine .inl ?_
        unfold goesTo
        rw [List.set_eq_of_length_le (by omega)]
    · exact .inl (goesTo_ne hj)
  refine ⟨by rw [goesTo_len]; exact h.len, fun j => ?_, fun j => ?_, fun j => ?_⟩
  · rcases e j with e | ⟨_, e⟩ <;> rw [e]
    · exact h.room j
    · exact hs
  · rcases e j with e | ⟨_, e⟩ <;> rw [e]
    · exact h.lo j
    · show 0 ≤ max _ _
      omega
  · rcases e j with e | ⟨rfl, e⟩ <;> rw [e]
    · exact h.hi j
    · have := h.hi j
      show max _ _ ≤ _
      omega
theorem plc_step {c : GCode} {ss : List GSpot} {k : Nat} (h : PlcOk c ss) (h0 : (stepAt c ss k).2 = 0) : PlcOk c (stepAt c ss k).1 := by
  unfold stepAt at h0 ⊢
  by_cases hr : (spotAt ss k).reached = true
  · rw [if_pos hr] at h0 ⊢
    unfold oneB at h0 ⊢
    cases hi : c.ins[k]? with
    | none => exact h
    | some i =>
      rw [hi] at h0
      have ok := oneIns_ok h0
      show PlcOk c (oneIns i (spotAt ss k) k (effB c i (spotAt ss k).stack) ss).1
      rw [ok.out]
      have h1 := h.lo k
      have h2 := h.hi k
      have hm : PlcOk c (if jumpsB i = true then goesTo ss i.a.toNat (nextB (spotAt ss k).stack (effB c i (spotAt ss k).stack)) ((spotAt ss k).steps + 1) else ss) := by
        by_cases hj : jumpsB i = true
        · rw [if_pos hj]
          have := ok.fwd hj
          exact plc_goes h ok.room (by omega) (by omega)
        · rw [if_neg hj]; exact h
      by_cases hs : staysB i = true
      · rw [if_pos hs]
        exact plc_goes hm ok.room (by omega) (by omega)
      · rw [if_neg hs]; exact hm
  · rw [if_neg hr]; exact h
theorem one_any (w0 w : World) (X S : Nat) (c : GCode) (vs bs is : Value) (ss : List GSpot) (hC : ChkSt w0 w X S c vs bs is ss) (k : Nat) (hk : k ≤ c.ins.length) (hm : c.ins.length ≤ 2000) (hI : InsOk c) (hP : PlcOk c ss) :
    Calls Try.prog 49 #[.pointer (some ⟨X, 0, none⟩), .int .i64 (k : Int)] w (OnePost w0 X S c vs bs is (oneB c ss k)) := by
  have hn := hP.len
  by_cases hkn : k < c.ins.length
  · obtain ⟨h1, h2⟩ := hI k hkn
    have h3 := hP.room k
    have h4 := hP.lo k
    have h5 := hP.hi k
    by_cases e1 : c.ins[k].op = 18
    · exact one_J w0 w X S c vs bs is ss hC k hkn hn (by omega) _ rfl h1 h2 e1 h3 h4 (by omega)
    by_cases e2 : c.ins[k].op = 19
    · exact one_I w0 w X S c vs bs is ss hC k hkn hn (by omega) _ rfl h1 h2 e2 h3 h4 (by omega)
    by_cases e3 : c.ins[k].op = 22
    · exact one_N w0 w X S c vs bs is ss hC k hkn hn (by omega) _ rfl h1 h2 e3 h3 h4 (by omega)
    · exact one_O w0 w X S c vs bs is ss hC k hkn hn (by omega) _ rfl h1 h2 ⟨e1, e2, e3⟩ h3 h4 (by omega)
  · exact one_end w0 w X S c vs bs is ss hC k (by omega) (by omega) (by omega)
end Go.Proofs.Ythiapebodpkamaa

