/- Where no place holds. -/
import Derived.Test.YthiapebodpkamaaWords
namespace Go.Proofs.Ythiapebodpkamaa
theorem idx_of_none {p : Nat → Bool} {n : Nat} (h : ∀ i, i < n → p i = false) : idxFrom p n 0 = -1 := by
  have g : ∀ m j, (∀ i, j ≤ i → i < j + m → p i = false) → idxFrom p m j = -1 := by
    intro m
    induction m with
    | zero => intro j _; rfl
    | succ m ih =>
      intro j hj
      rw [idxFrom, if_neg (by rw [hj j (Nat.le_refl _) (by omega)]; exact Bool.false_ne_true)]
      exact ih (j + 1) fun i h1 h2 => hj i (by omega) (by omega)
  exact g n 0 fun i _ h2 => h i (by omega)
end Go.Proofs.Ythiapebodpkamaa

