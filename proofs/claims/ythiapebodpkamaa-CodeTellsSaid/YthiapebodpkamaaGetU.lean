/- Contracts of bytes.GetUint and of what it calls. -/
import Derived.Test.YthiapebodpkamaaReadP
import Derived.Test.YthiapebodpkamaaIdx
import Derived.IntWalk
namespace Go.Proofs.Ythiapebodpkamaa
open Go.RowKit
def tailU (A : Option Addr) (n c d : Nat) : Value := .slice (if c = d then A else A.map (·.add d)) (n - d) (c - d)
theorem run_tailU (W : World) (A : Option Addr) (n c d : Nat) (h : d ≤ n) : (Instr.slice 62 (.slice A n c) (some (.int .i64 (d : Int))) none none).run Try.prog W = .ok (tailU A n c d) W := by
  have ht : Try.prog.underlying 62 = some (.slice (Try.prog.elem 62)) := by kernel_rfl
  have hs : (Go.sizeOf (Try.prog.elem 62)).run Try.prog W = .ok 1 W := by kernel_rfl
  rw [run_slice_l W _ _ _ _ ht .i64 _ (by omega) (by omega), hs]
  simp [Result.andThen, sliced, tailU]
theorem Rd.tailU {w : World} {A : Option Addr} {n c : Nat} {xs : List Int} (h : Rd oneU8 1 w (.slice A n c) xs) (d : Nat) (hd : d ≤ n) : Rd oneU8 1 w (tailU A n c d) (xs.drop d) := by
  obtain ⟨h0, A', c', e, h2, h4, h3⟩ := h
  cases e
  refine ⟨by simp; omega, _, _, by unfold Go.Proofs.Ythiapebodpkamaa.tailU; rw [List.length_drop], by simp; omega, fun e => ?_, fun hp => ?_⟩
  · by_cases hcd : c = d
    · rw [if_pos hcd] at e; have := h4 e; omega
    · rw [if_neg hcd] at e
      have : A = none := by cases A <;> simp_all
      have := h4 this; omega
  · have hl : d < xs.length := by simp at hp; omega
    obtain ⟨b, off, rfl, hc⟩ := h3 (by omega)
    refine ⟨b, off + d, ?_, fun j hj i u hu => ?_⟩
    · rw [if_neg (by omega)]
      simp [Addr.add_lit]
    · have hj' : d + j < xs.length := by simp at hj; omega
      have e : (xs.drop d)[j] = xs[d + j] := by rw [List.getElem_drop]
      rw [e] at hu
      have := hc (d + j) hj' i u hu
      rw [show off + d + j * 1 + i = off + (d + j) * 1 + i by omega]
      exact this
def RestPost (w : World) (l : List Int) (e : Ending) (w' : World) : Prop := ∃ tv, e = .returned (.tuple #[tv, .bool true]) ∧ Rd oneU8 1 w tv l ∧ w = w'
set_option maxRecDepth 100000 in
theorem rest_any (w : World) (v : Value) (l : List Int) (h : Rd oneU8 1 w v l) (d : Nat) (hd : d ≤ l.length) : Calls Try.prog 93 #[v, .int .i64 (d : Int)] w (RestPost w (l.drop d)) := by
  obtain ⟨A, c, rfl⟩ : ∃ A c, v = .slice A l.length c := by obtain ⟨_, A, c, h, _⟩ := h; exact ⟨A, c, h⟩
  have hmax := h.1
  have hrun := run_tailU w A l.length c d hd
  have HT := Fact.mk (h.tailU d hd)
  have e1 : ¬ (d : Int) < 0 := by omega
  have e2 : decide ((l.length : Int) < (d : Int)) = false := decide_eq_false (by omega)
  have e3 : decide (l.length < d) = false := decide_eq_false (by omega)
  clear h
  generalize tailU A l.length c d = tv at hrun HT
  go_enter Try.func93, Try.ntmps93
  go_wp2
  go_ret2
  exact ⟨tv, rfl, HT.out, rfl⟩
theorem low_any (x : Int) (w : World) : Calls Try.prog 95 #[.int .u8 x] w fun e w' => e = .returned (.bool (decide (x < 128))) ∧ w = w' := by
  go_enter Try.func95, Try.ntmps95
  go_wp2
  go_ret
  exact ⟨rfl, rfl⟩
def lowAt (l : List Int) (j : Nat) : Bool := match l[j]? with | some x => decide (x < 128) | none => false
theorem lowAt_cons (b : Int) (t : List Int) (j : Nat) : lowAt (b :: t) (j + 1) = lowAt t j := rfl
theorem idxFrom_shift (p q : Nat → Bool) : ∀ (n j : Nat), (∀ i, p (i + 1) = q i) → idxFrom p n (j + 1) = (if 0 ≤ idxFrom q n j then idxFrom q n j + 1 else -1) := by
  intro n
  induction n with
  | zero => intro j _; rfl
  | succ n ih =>
    intro j h
    rw [idxFrom, idxFrom, h j]
    by_cases hq : q j = true
    · rw [if_pos hq, if_pos hq, if_pos (by omega), Int.natCast_add]; rfl
    · rw [if_neg hq, if_neg hq]; exact ih (j + 1) h
theorem first_idx : ∀ l : List Int, idxFrom (lowAt l) l.length 0 = (match firstLow l with | some k => (k : Int) | none => -1) := by
  intro l
  induction l with
  | nil => rfl
  | cons b t ih =>
    rw [List.length_cons, idxFrom, firstLow]
    by_cases hb : b < 128
    · rw [if_pos (show lowAt (b :: t) 0 = true from decide_eq_true hb), if_pos hb]
    · rw [if_neg (show ¬ lowAt (b :: t) 0 = true from by show ¬ decide (b < 128) = true; simpa using hb), if_neg hb, idxFrom_shift _ (lowAt t) _ 0 (fun i => lowAt_cons b t i), ih]
      cases firstLow t with
      | none => rfl
      | some k => show (if 0 ≤ (k : Int) then (k : Int) + 1 else -1) = ((k + 1 : Nat) : Int); rw [if_pos (by omega)]; omega
theorem idx_low (w : World) (v : Value) (l : List Int) (h : Rd oneU8 1 w v l) : Calls Try.prog 94 #[v, .func (.func 95) #[] #[]] w fun e w' => e = .returned (.int .i64 (match firstLow l with | some k => (k : Int) | none => -1)) ∧ w = w' := by
  refine (idxByte_any (fun _ W => w = W) (lowAt l) _ _ (enters_of Try.func95 (by kernel_rfl) rfl) v l w rfl (fun j W hI => hI ▸ h) ?_).mono ?_
  · intro j hj W hI
    refine (low_any l[j] W).mono ?_
    rintro e w' ⟨rfl, rfl⟩
    exact ⟨ret_bool (by unfold lowAt; rw [List.getElem?_eq_getElem hj]), hI⟩
  · rintro e w' ⟨rfl, j, hI⟩
    exact ⟨by rw [first_idx], hI⟩
theorem idx_no (w : World) (v : Value) (l : List Int) (h : Rd oneU8 1 w v l) (hf : firstLow l = none) : Calls Try.prog 94 #[v, .func (.func 95) #[] #[]] w fun e w' => e = .returned (.int .i64 (-1)) ∧ w = w' := by
  have := idx_low w v l h
  rw [hf] at this
  exact this
theorem idx_yes (w : World) (v : Value) (l : List Int) (h : Rd oneU8 1 w v l) {k : Nat} (hf : firstLow l = some k) : Calls Try.prog 94 #[v, .func (.func 95) #[] #[]] w fun e w' => e = .returned (.int .i64 (k : Int)) ∧ w = w' := by
  have := idx_low w v l h
  rw [hf] at this
  exact this
end Go.Proofs.Ythiapebodpkamaa

