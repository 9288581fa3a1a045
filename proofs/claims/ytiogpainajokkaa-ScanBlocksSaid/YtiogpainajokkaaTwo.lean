/- Pairs of truths in memory; a row made of a literal. -/
import Derived.Test.YtiogpainajokkaaAwkM
namespace Go.Proofs.Ytiogpainajokkaa
open Go.RowKit
def twoB (x : Bool × Bool) : List Value := [.bool x.1, .bool x.2]
theorem twoB_len (x : Bool × Bool) : (twoB x).length = 2 := rfl
theorem Rd.at2 {w : World} {v : Value} {xs : List (Bool × Bool)} (h : Rd twoB 2 w v xs) (i : Nat) (hi : i < xs.length) : ∃ b off c, v = .slice (some ⟨b, off, none⟩) xs.length c ∧ w.cell? ⟨b, off + i * 2, none⟩ = some (.bool xs[i].1) ∧ w.cell? ⟨b, off + i * 2 + 1, none⟩ = some (.bool xs[i].2) := by
  obtain ⟨h0, A, c, rfl, h2, h4, h3⟩ := h
  obtain ⟨b, off, rfl, hc⟩ := h3 (by omega)
  exact ⟨b, off, c, rfl, hc i hi 0 _ rfl, hc i hi 1 _ rfl⟩
theorem own_new {α : Type} {E : TypeId} {k : Nat} {enc : α → List Value} (hk : ∀ x, (enc x).length = k) {W : World} {base g : Nat} {xs : List α} (h : W.heap[g]? = some (.cells (xs.flatMap enc).toArray E (0, 0))) (hb : base ≤ g) (hl : xs.length ≤ 100000) : Own E k enc W base (.slice (some ⟨g, 0, none⟩) xs.length xs.length) xs :=
  ⟨flatMap_len hk xs, .inr ⟨g, xs.length, _, rfl, hb, h, Nat.le_refl _, Nat.le_trans hl (by decide), by simp [flatMap_len hk xs], by rw [List.take_of_length_le (by rw [List.toList_toArray, flatMap_len hk xs]; exact Nat.le_refl _)]⟩⟩
theorem i64_smallB {n : Int} (h : 0 ≤ n) (h2 : n ≤ 9223372036854775807) : IntKind.i64.wrap n = n := by
  simp only [IntKind.wrap, IntKind.bits, IntKind.signed]
  simp
  omega
theorem insInfoB : ∃ i, Try.prog.info? 49 = some i ∧ i.zero = some (.agg #[.int .u8 0, .int .u8 0, .int .i64 0, .int .i64 0]) ∧ i.size = 4 ∧ i.bytes = 24 := by
  have h : (Try.prog.info? 49).map (fun i => (i.zero, i.size, i.bytes)) = some (some (.agg #[.int .u8 0, .int .u8 0, .int .i64 0, .int .i64 0]), 4, 24) := by kernel_rfl
  obtain ⟨i, h1, h2⟩ := Option.map_eq_some_iff.1 h
  simp only [Prod.mk.injEq] at h2
  exact ⟨i, h1, h2.1, h2.2.1, h2.2.2⟩
theorem ins_oneB (y : GIns) : ∀ u ∈ encIns y, u.oneCell' = true := by
  intro u hu
  simp only [encIns, List.mem_cons, List.not_mem_nil, or_false] at hu
  rcases hu with rfl | rfl | rfl | rfl <;> rfl
end Go.Proofs.Ytiogpainajokkaa

