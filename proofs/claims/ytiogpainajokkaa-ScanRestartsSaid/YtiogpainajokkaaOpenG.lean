/- Slices that come in as arguments, opened to Lean data. -/
import Derived.Test.YtiogpainajokkaaBaseM
import Derived.Lib.SmallJoins
import Derived.WalkKit
import Derived.ProofKit
import Derived.OpenShut
namespace Go.Proofs.Ytiogpainajokkaa
open Go.RowKit Go.ChangeShapes Go.WideShapes Go.Deep Go.Joins
theorem pick_list {α : Type} {Q : Nat → α → Prop} (n : Nat) (h : ∀ i, i < n → ∃ a, Q i a) : ∃ l : List α, l.length = n ∧ ∀ i (hi : i < l.length), Q i l[i] := by
  induction n with
  | zero => exact ⟨[], rfl, fun i hi => absurd hi (by simp)⟩
  | succ n ih =>
    obtain ⟨l, hl, hq⟩ := ih (fun i hi => h i (by omega))
    obtain ⟨a, ha⟩ := h n (by omega)
    refine ⟨l ++ [a], by simp [hl], fun i hi => ?_⟩
    by_cases hlt : i < l.length
    · rw [List.getElem_append_left hlt]; exact hq i hlt
    · have hi' : i = l.length := by simp at hi; omega
      subst hi'
      subst hl
      simpa using ha
theorem spot_of_cell {w : World} {a : Addr} {v : Value} (h : w.cell? a = some v) : a.spot = none := by
  unfold World.cell? at h
  split at h
  · split at h
    · cases h
    · rename_i hs; simpa using hs
  · cases h
section
variable {H : Type} {enc : TypeId × Value → H} {P : Program} {w : World} {base : Nat} {spare : Nat → Bool} {held : Bool}
theorem open_rd {α : Type} {en : α → List Value} {k : Nat} {Good : α → Prop} {t e : TypeId} (ht : P.underlying t = some (.slice e)) (hk : P.cellsOf e = k) (hlen : ∀ a, (en a).length = k) (hpos : 0 < k)
    (hE : ∀ n cs x, DataW.trod enc P w base spare held n e cs = some x → ∃ a, cs = en a ∧ Good a)
    {fuel : Nat} {v : Value} {x : DataW H × List MemPlace} (h : DataW.trod enc P w base spare held fuel t [v] = some x) : ∃ xs : List α, Rd en k w v xs ∧ ∀ y ∈ xs, Good y := by
  rcases open_slice ht h with ⟨hc, _⟩ | ⟨a, len, cap, m, n, D, Pl, hc, hb, hl, hm, hmm, _, hi⟩
  · obtain rfl : v = .slice none 0 0 := by simpa using hc
    exact ⟨[], rd_nil _ _ _, by simp⟩
  · obtain rfl : v = .slice (some a) len cap := by simpa using hc
    obtain ⟨l, hll, hq⟩ := pick_list (Q := fun i g => Good g ∧ ∀ j u, (en g)[j]? = some u → w.cell? (a.add (i * k + j)) = some u) len (fun i hi' => by
      obtain ⟨cs', hcs, htr⟩ := hi i (by rw [hmm]; split <;> omega)
      obtain ⟨g, rfl, hg⟩ := hE _ _ _ htr
      obtain ⟨_, _, hat⟩ := World.cells?_some hcs
      refine ⟨g, hg, fun j u hu => ?_⟩
      have hj : j < P.cellsOf e := by rw [hk, ← hlen g]; exact (List.getElem?_eq_some_iff.1 hu).1
      rw [← hk, ← Go.Deep.add_add, hat j hj]
      exact hu)
    subst hll
    refine ⟨l, ⟨by simp only [maxLen] at hm; omega, some a, cap, rfl, hl, (fun h => by cases h), fun hp => ?_⟩, fun y hy => ?_⟩
    · have hs : a.spot = none := by
        have h0 : 0 < (en l[0]).length := by rw [hlen]; exact hpos
        have := (hq 0 hp).2 0 _ (List.getElem?_eq_getElem h0)
        exact spot_of_cell (by simpa [Addr.add] using this)
      obtain ⟨b, off, sp⟩ := a
      subst hs
      refine ⟨b, off, rfl, fun j hj i u hu => ?_⟩
      have := (hq j hj).2 i u hu
      rwa [Go.WideShapes.add_plain, ← Nat.add_assoc] at this
    · obtain ⟨i, hi', rfl⟩ := List.getElem_of_mem hy
      exact (hq i hi').1
end
theorem wf_u8 {n : Int} (h : (Lit.int .u8 n).wf = true) : 0 ≤ n ∧ n ≤ 255 := by simpa [Lit.wf, IntKind.min, IntKind.max, IntKind.bits, IntKind.signed] using h
theorem wf_i64 {n : Int} (h : (Lit.int .i64 n).wf = true) : -9223372036854775808 ≤ n ∧ n ≤ 9223372036854775807 := by simpa [Lit.wf, IntKind.min, IntKind.max, IntKind.bits, IntKind.signed] using h
end Go.Proofs.Ytiogpainajokkaa

