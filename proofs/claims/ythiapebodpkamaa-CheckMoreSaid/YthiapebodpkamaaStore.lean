/- A store into a row of the call's own. -/
import Derived.Test.YthiapebodpkamaaReg
namespace Go.Proofs.Ythiapebodpkamaa
open Go.RowKit
theorem row_store {E : TypeId} {k n : Nat} {w : World} {base g cap : Nat} {xs : List Value} (h : w.ownsRow base E k (.slice (some ⟨g, 0, none⟩) n cap) n xs) (j : Nat) (u : Value) : (w.setCell ⟨g, j, none⟩ u).ownsRow base E k (.slice (some ⟨g, 0, none⟩) n cap) n (xs.set j u) := by
  obtain ⟨hl, h2⟩ := h
  rcases h2 with ⟨h2, _⟩ | ⟨g', cap', cur, hv, hg, hh, hnc, hcm, hcs, ht⟩
  · cases h2
  · cases hv
    refine ⟨by simpa using hl, .inr ⟨g, cap, cur.setIfInBounds j u, rfl, hg, ?_, hnc, hcm, by simpa using hcs, ?_⟩⟩
    · simp only [World.setCell, Array.getElem?_modify, if_true, hh, Option.map_some]
      rfl
    · rw [Array.toList_setIfInBounds, List.take_set, ht]
theorem flatMap_set {α : Type} {enc : α → List Value} {k : Nat} (hk : ∀ x, (enc x).length = k) (xs : List α) (j : Nat) (h : j < xs.length) (i : Nat) (hi : i < k) (y : α) (u : Value) (hy : enc y = (enc xs[j]).set i u) : (xs.flatMap enc).set (j * k + i) u = (xs.set j y).flatMap enc := by
  induction xs generalizing j with
  | nil => exact absurd h (by simp)
  | cons x l ih =>
    cases j with
    | zero =>
      rw [List.flatMap_cons, Nat.zero_mul, Nat.zero_add, List.set_append_left _ _ (by rw [hk]; exact hi), List.set_cons_zero, List.flatMap_cons, hy]
      rfl
    | succ j =>
      have e : (j + 1) * k + i - k = j * k + i := by rw [Nat.succ_mul]; omega
      rw [List.flatMap_cons, List.set_append_right _ _ (by rw [hk, Nat.succ_mul]; omega), hk, e, List.set_cons_succ, List.flatMap_cons, ih j (by simpa using h) (by simpa using hy)]
theorem Own.store {α : Type} {E : TypeId} {k : Nat} {enc : α → List Value} {w : World} {base g cap : Nat} {xs : List α} (hk : ∀ x, (enc x).length = k) (h : Own E k enc w base (.slice (some ⟨g, 0, none⟩) xs.length cap) xs) (j : Nat) (hj : j < xs.length) (i : Nat) (hi : i < k) (y : α) (u : Value) (hy : enc y = (enc xs[j]).set i u) :
    Own E k enc (w.setCell ⟨g, j * k + i, none⟩ u) base (.slice (some ⟨g, 0, none⟩) xs.length cap) (xs.set j y) := by
  have := row_store h (j * k + i) u
  rw [flatMap_set hk xs j hj i hi y u hy] at this
  show (w.setCell ⟨g, j * k + i, none⟩ u).ownsRow base E k _ (xs.set j y).length _
  rw [List.length_set]
  exact this
end Go.Proofs.Ythiapebodpkamaa

