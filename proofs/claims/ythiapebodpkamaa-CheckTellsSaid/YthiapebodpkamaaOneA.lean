/- One place gone over: words. -/
import Derived.Test.YthiapebodpkamaaPlc
import Derived.IntWalk
namespace Go.Proofs.Ythiapebodpkamaa
open Go.RowKit
theorem fit_jump {c : GCode} {i : GIns} (hf : fitsB c i = true) (ho : i.op = 18 ∨ i.op = 19) : 0 ≤ i.a ∧ i.a < c.ins.length + 1 := by
  obtain ⟨op, t, a, n⟩ := i
  rcases ho with ho | ho
  all_goals
    obtain rfl : op = _ := ho
    show 0 ≤ a ∧ a < (c.ins.length : Int) + 1
    simp only [fitsB, show shapeStr 18 = [45, 106, 45] from rfl, show shapeStr 19 = [45, 106, 45] from rfl, Bool.and_eq_true] at hf
    have h := hf.1.2
    simp [chk, belowB] at h
    omega
def tailS (A : Option Addr) (n c d : Nat) : Value := .slice (if c = d then A else A.map (·.add d)) (n - d) (c - d)
def headS (A : Option Addr) (c d : Nat) : Value := .slice (if c = 0 then A else A.map (·.add 0)) d c
theorem run_tailS (W : World) (A : Option Addr) (n c d : Nat) (h : d ≤ n) : (Instr.slice 50 (.slice A n c) (some (.int .i64 (d : Int))) none none).run Try.prog W = .ok (tailS A n c d) W := by
  have ht : Try.prog.underlying 50 = some (.slice (Try.prog.elem 50)) := by kernel_rfl
  have hs : (Go.sizeOf (Try.prog.elem 50)).run Try.prog W = .ok 1 W := by kernel_rfl
  rw [run_slice_l W _ _ _ _ ht .i64 _ (by omega) (by omega), hs]
  simp [Result.andThen, sliced, tailS]
theorem run_headS (W : World) (A : Option Addr) (n c d : Nat) (h : d ≤ c) : (Instr.slice 50 (.slice A n c) none (some (.int .i64 (d : Int))) none).run Try.prog W = .ok (headS A c d) W := by
  have ht : Try.prog.underlying 50 = some (.slice (Try.prog.elem 50)) := by kernel_rfl
  have hs : (Go.sizeOf (Try.prog.elem 50)).run Try.prog W = .ok 1 W := by kernel_rfl
  rw [run_slice_h W _ _ _ _ ht .i64 _ (by omega) (by omega), hs]
  simp [Result.andThen, sliced, headS]
theorem Rd.tail {w : World} {A : Option Addr} {n c : Nat} {xs : List Int} (h : Rd oneU8 1 w (.slice A n c) xs) (d : Nat) (hd : d ≤ n) : Rd oneU8 1 w (tailS A n c d) (xs.drop d) := by
  obtain ⟨h0, A', c', e, h2, h4, h3⟩ := h
  cases e
  refine ⟨by simp; omega, _, _, by unfold tailS; rw [List.length_drop], by simp; omega, fun e => ?_, fun hp => ?_⟩
  · by_cases hcd : c = d
    · rw [if_pos hcd] at e; have := h4 e; omega
    · rw [if_neg hcd] at e
      have : A = none := by cases A <;> simp_all
      have := h4 this; omega
  · have hl : d < xs.length := by simp at hp; omega
    obtain ⟨b, off, rfl, hc⟩ := h3 (by omega)
    refine ⟨b, off + d, ?_, fun j hj i u hu => ?_⟩
    · rw [if_neg (by omega)]
      simp [Addr.add_lit]
    · have hj' : d + j < xs.length := by simp at hj; omega
      have e : (xs.drop d)[j] = xs[d + j] := by rw [List.getElem_drop]
      rw [e] at hu
      have := hc (d + j) hj' i u hu
      rw [show off + d + j * 1 + i = off + (d + j) * 1 + i by omega]
      exact this
theorem Rd.head {w : World} {A : Option Addr} {n c : Nat} {xs : List Int} (h : Rd oneU8 1 w (.slice A n c) xs) (d : Nat) (hd : d ≤ n) : Rd oneU8 1 w (headS A c d) (xs.take d) := by
  obtain ⟨h0, A', c', e, h2, h4, h3⟩ := h
  cases e
  have hl : (xs.take d).length = d := by simp; omega
  refine ⟨by omega, _, _, by unfold headS; rw [hl], by omega, fun e => ?_, fun hp => ?_⟩
  · by_cases hcd : c = 0
    · exact hcd
    · rw [if_neg hcd] at e
      have : A = none := by cases A <;> simp_all
      exact h4 this
  · obtain ⟨b, off, rfl, hc⟩ := h3 (by omega)
    refine ⟨b, off, ?_, fun j hj i u hu => ?_⟩
    · rw [if_neg (by omega)]
      simp [Addr.add_lit]
    · have hj' : j < xs.length := by omega
      rw [List.getElem_take] at hu
      exact hc j hj' i u hu
/-- What one place comes to: an error's number, the places behind it. -/
def OnePost (w0 : World) (X S : Nat) (c : GCode) (vs bs is : Value) (r : List GSpot × Int) (e : Ending) (w' : World) : Prop := e = .returned (.int .i64 r.2) ∧ ChkSt w0 w' X S c vs bs is r.1
section
variable {i : GIns} {s : GSpot} {k : Nat} {e : List Int × List Int} {ss : List GSpot}
theorem one_back (h : (jumpsB i && decide (i.a ≤ k)) = true) : oneIns i s k e ss = (ss, 141) := by rw [oneIns, if_pos h]
theorem one_take (h : (jumpsB i && decide (i.a ≤ k)) = false) (h2 : takesOk s.stack e.1 = false) : oneIns i s k e ss = (ss, 140) := by rw [oneIns, if_neg (by rw [h]; decide), if_pos h2]
theorem one_room (h : (jumpsB i && decide (i.a ≤ k)) = false) (h2 : takesOk s.stack e.1 = true) (h3 : (decide (64 < (nextB s.stack e).length) || (decide (i.op = 22) && decide (0 < (nextB s.stack e).length))) = true) : oneIns i s k e ss = (ss, 140) := by
  rw [oneIns, if_neg (by rw [h]; decide), if_neg (by rw [h2]; decide), if_pos h3]
theorem one_jump (h : (jumpsB i && decide (i.a ≤ k)) = false) (h2 : takesOk s.stack e.1 = true) (h3 : (decide (64 < (nextB s.stack e).length) || (decide (i.op = 22) && decide (0 < (nextB s.stack e).length))) = false) (h4 : jumpsB i = true) (h5 : goesOk ss i.a.toNat (nextB s.stack e) = false) : oneIns i s k e ss = (ss, 140) := by
  rw [oneIns, if_neg (by rw [h]; decide), if_neg (by rw [h2]; decide), if_neg (by rw [h3]; decide), if_pos (by rw [h4, h5]; rfl)]
theorem one_rest (h : (jumpsB i && decide (i.a ≤ k)) = false) (h2 : takesOk s.stack e.1 = true) (h3 : (decide (64 < (nextB s.stack e).length) || (decide (i.op = 22) && decide (0 < (nextB s.stack e).length))) = false) (h4 : (jumpsB i && !goesOk ss i.a.toNat (nextB s.stack e)) = false) :
    oneIns i s k e ss = (if staysB i = true then (if goesOk (if jumpsB i = true then goesTo ss i.a.toNat (nextB s.stack e) (s.steps + 1) else ss) (k + 1) (nextB s.stack e) = true then (goesTo (if jumpsB i = true then goesTo ss i.a.toNat (nextB s.stack e) (s.steps + 1) else ss) (k + 1) (nextB s.stack e) (s.steps + 1), 0) else ((if jumpsB i = true then goesTo ss i.a.toNat (nextB s.stack e) (s.steps + 1) else ss), 140)) else ((if jumpsB i = true then goesTo ss i.a.toNat (nextB s.stack e) (s.steps + 1) else ss), 0)) := by
  rw [oneIns, if_neg (by rw [h]; decide), if_neg (by rw [h2]; decide), if_neg (by rw [h3]; decide), if_neg (by rw [h4]; decide)]
end
theorem oneB_ins {c : GCode} {ss : List GSpot} {k : Nat} {i : GIns} (h : c.ins[k]? = some i) : oneB c ss k = oneIns i (spotAt ss k) k (effB c i (spotAt ss k).stack) ss := by
  unfold oneB; rw [h]
theorem ite_two {p : Prop} [Decidable p] {a b : List Int × List Int} (h1 : a.2.length ≤ 2) (h2 : b.2.length ≤ 2) : (if p then a else b).2.length ≤ 2 := by split <;> assumption
theorem pinsIn_five (k : Int) : (pinsIn k).length ≤ 5 := by
  refine Nat.le_trans (typesOf_len _) ?_
  unfold pinStr
  repeat' split
  all_goals simp
theorem ite_one {p : Prop} [Decidable p] {a b : List Int × List Int} (h1 : a.1.length ≤ 5) (h2 : b.1.length ≤ 5) : (if p then a else b).1.length ≤ 5 := by split <;> assumption
theorem eff_len1 (c : GCode) (i : GIns) (s : List Int) : (effB c i s).1.length ≤ 5 := by
  unfold effB
  repeat' apply ite_one
  all_goals first | exact pinsIn_five _ | simp
theorem eff_len (c : GCode) (i : GIns) (s : List Int) : (effB c i s).2.length ≤ 2 := by
  unfold effB
  repeat' apply ite_two
  all_goals simp
theorem grown_otherS {w w' : World} {g i : Nat} {o : Obj} (h : w.grownBy w' (some g)) (hi : w.heap[i]? = some o) (hne : i ≠ g) : w'.heap[i]? = some o := by
  rw [h.block i (Array.getElem?_eq_some_iff.1 hi).1 (fun e => hne (by cases e; rfl))]; exact hi
theorem below_dn9 (w : World) (n : Nat) : Below w.heap.size w (w.drewN n) := ⟨rfl, rfl, rfl, Nat.le_refl _, fun _ _ => rfl⟩
end Go.Proofs.Ythiapebodpkamaa

