/- What the loops of code.Read come to, in plain Lean. -/
import Derived.Test.YthiapebodpkamaaReadC
namespace Go.Proofs.Ythiapebodpkamaa
/-- On the way: k are still to be read, xs were; o is what is left. -/
def Prog {α : Type} (P : Option (List α × List Int)) (p : List Int → Option (α × List Int)) (k : Nat) (xs : List α) (o : Option (List Int)) : Prop :=
  match o with
  | none => P = none
  | some rest => P = (manyP p k rest).bind fun t => some (xs ++ t.1, t.2)
theorem prog_start {α : Type} {p : List Int → Option (α × List Int)} {n : Nat} {o : Option (List Int)} : Prog (o.bind (manyP p n)) p n [] o := by
  cases o with
  | none => rfl
  | some rest =>
    show manyP p n rest = _
    cases manyP p n rest with
    | none => rfl
    | some t => rfl
theorem prog_step {α : Type} {P : Option (List α × List Int)} {p : List Int → Option (α × List Int)} {k : Nat} {xs : List α} {o : Option (List Int)} (h : Prog P p (k + 1) xs o) {y : α} (hy : ∀ x rest, o.bind p = some (x, rest) → y = x) : Prog P p k (xs ++ [y]) ((o.bind p).map (·.2)) := by
  cases o with
  | none => exact h
  | some rest =>
    have h : P = (manyP p (k + 1) rest).bind fun t => some (xs ++ t.1, t.2) := h
    unfold manyP at h
    simp only [Option.bind_some] at hy ⊢
    cases hp : p rest with
    | none =>
      rw [hp] at h
      exact h
    | some q =>
      obtain ⟨x, r⟩ := q
      rw [hp] at h
      obtain rfl := hy x r hp
      show P = (manyP p k r).bind fun t => some (xs ++ [y] ++ t.1, t.2)
      rw [h]
      simp only [Option.bind_some]
      cases manyP p k r with
      | none => rfl
      | some t => simp
theorem prog_end {α : Type} {P : Option (List α × List Int)} {p : List Int → Option (α × List Int)} {k : Nat} {xs : List α} {o : Option (List Int)} (h : Prog P p k xs o) (he : k = 0 ∨ o = none) : P.map (·.2) = o ∧ ∀ ys r, P = some (ys, r) → xs = ys := by
  cases o with
  | none =>
    obtain rfl : P = none := h
    exact ⟨rfl, fun _ _ h => by cases h⟩
  | some rest =>
    obtain rfl : k = 0 := he.resolve_right (by simp)
    have h : P = (manyP p 0 rest).bind fun t => some (xs ++ t.1, t.2) := h
    simp only [manyP, Option.bind_some, List.append_nil] at h
    subst h
    exact ⟨rfl, fun _ _ h => by cases h; rfl⟩
theorem code_steps (l : List Int) : ∃ (P1 : Option (ByteArray × List Int)) (N1 : Option (Nat × List Int)) (V : Option (List GVar × List Int)) (N2 : Option (Nat × List Int)) (B : Option (List Int × List Int)) (N3 : Option (Nat × List Int)) (I : Option (List GIns × List Int)),
    P1 = (some l).bind textP ∧ N1 = (P1.map (·.2)).bind (numP 200) ∧ V = (N1.map (·.2)).bind (manyP varP ((N1.map (·.1)).getD 0)) ∧ N2 = (V.map (·.2)).bind (numP 100) ∧ B = (N2.map (·.2)).bind (manyP blkP ((N2.map (·.1)).getD 0)) ∧ N3 = (B.map (·.2)).bind (numP 2000) ∧ I = (N3.map (·.2)).bind (manyP insP ((N3.map (·.1)).getD 0)) ∧
    (codeP l).map (·.2) = I.map (·.2) ∧ ∀ nm xs ks is, (∀ a r, P1 = some (a, r) → nm = a) → (∀ a r, V = some (a, r) → xs = a) → (∀ a r, B = some (a, r) → ks = a) → (∀ a r, I = some (a, r) → is = a) → ∀ c r, codeP l = some (c, r) → c = ⟨nm, xs, ks, is⟩ := by
  refine ⟨_, _, _, _, _, _, _, rfl, rfl, rfl, rfl, rfl, rfl, rfl, ?_, ?_⟩
  · simp only [Option.bind_some, codeP]
    cases h1 : textP l with
    | none => simp
    | some p1 =>
      cases h2 : numP 200 p1.2 with
      | none => simp [h2]
      | some p2 =>
        cases h3 : manyP varP p2.1 p2.2 with
        | none => simp [h2, h3]
        | some p3 =>
          cases h4 : numP 100 p3.2 with
          | none => simp [h2, h3, h4]
          | some p4 =>
            cases h5 : manyP blkP p4.1 p4.2 with
            | none => simp [h2, h3, h4, h5]
            | some p5 =>
              cases h6 : numP 2000 p5.2 with
              | none => simp [h2, h3, h4, h5, h6]
              | some p6 =>
                cases h7 : manyP insP p6.1 p6.2 with
                | none => simp [h2, h3, h4, h5, h6, h7]
                | some p7 => simp [h2, h3, h4, h5, h6, h7]
  · intro nm xs ks is g1 g3 g5 g7 c r h
    unfold codeP at h
    obtain ⟨p1, h1, h⟩ := Option.bind_eq_some_iff.1 h
    obtain ⟨p2, h2, h⟩ := Option.bind_eq_some_iff.1 h
    obtain ⟨p3, h3, h⟩ := Option.bind_eq_some_iff.1 h
    obtain ⟨p4, h4, h⟩ := Option.bind_eq_some_iff.1 h
    obtain ⟨p5, h5, h⟩ := Option.bind_eq_some_iff.1 h
    obtain ⟨p6, h6, h⟩ := Option.bind_eq_some_iff.1 h
    obtain ⟨p7, h7, h⟩ := Option.bind_eq_some_iff.1 h
    simp only [Option.bind_some, h1, Option.map_some, h2, Option.getD_some, h3, h4, h5, h6, h7] at g1 g3 g5 g7
    rw [g1 p1.1 p1.2 rfl, g3 p3.1 p3.2 rfl, g5 p5.1 p5.2 rfl, g7 p7.1 p7.2 rfl]
    injection h with h
    injection h with e1 _
    exact e1.symm
end Go.Proofs.Ythiapebodpkamaa

