/- A copy of a list of types. -/
import Derived.Test.YthiapebodpkamaaGrow
import Derived.Test.YthiapebodpkamaaProg
import Derived.Outline
import Derived.Lib.SliceRun
namespace Go.Proofs.Ythiapebodpkamaa
open Go.RowKit
theorem oneU8_one : ∀ y, ∀ u ∈ oneU8 y, u.oneCell' = true := by
  intro y u hu
  simp only [oneU8, List.mem_singleton] at hu
  subst hu
  rfl
theorem typ_info : ∃ i, Try.prog.info? 22 = some i ∧ i.zero = some (.int .u8 0) ∧ i.size = 1 ∧ i.bytes = 1 := by
  have h : (Try.prog.info? 22).map (fun i => (i.zero, i.size, i.bytes)) = some (some (.int .u8 0), 1, 1) := by kernel_rfl
  obtain ⟨i, h1, h2⟩ := Option.map_eq_some_iff.1 h
  simp only [Prod.mk.injEq] at h2
  exact ⟨i, h1, h2.1, h2.2.1, h2.2.2⟩
/-- A row of the call's own with these types. -/
def RowPost (w : World) (xs : List Int) (e : Ending) (w' : World) : Prop := ∃ v, e = .returned v ∧ Own 22 1 oneU8 w' w.heap.size v xs ∧ Below w.heap.size w w'
theorem own_nil0 (w : World) : Own 22 1 oneU8 (w.alloc (.cells #[] 22)) w.heap.size (.slice (some ⟨w.heap.size, 0, none⟩) 0 0) [] :=
  ⟨by simp, .inr ⟨w.heap.size, 0, #[], rfl, Nat.le_refl _, heap_alloc_new w _, Nat.le_refl _, Nat.zero_le _, by simp, by simp⟩⟩
set_option maxHeartbeats 800000 in
set_option maxRecDepth 100000 in
theorem clone_any (w : World) (v : Value) (xs : List Int) (hl : xs.length ≤ 100000) (h : Rd oneU8 1 w v xs) : Calls Try.prog 80 #[v] w (RowPost w xs) := by
  obtain ⟨i0, hi, hz0, hz1, hz2⟩ := typ_info
  have hq : ∀ (w : World) (a : Option Addr) (n c n' c' : Nat), (binOp .eql 50 (.slice a n c) (.slice none n' c')).run Try.prog w = .ok (.bool a.isNone) w := fun w a n c n' c' => Lib.run_eql_slice_nil w _ _ a n c n' c' Try.underlying50
  have HR := Fact.mk h
  obtain ⟨_, A, c, rfl, _, hnil, _⟩ := h
  cases A with
  | none =>
    obtain rfl := hnil rfl
    obtain rfl : xs = [] := by
      cases xs with
      | nil => rfl
      | cons x l =>
        obtain ⟨_, A, c, e, _, _, h3⟩ := HR.out
        cases e
        obtain ⟨_, _, e, _⟩ := h3 (by simp)
        cases e
    clear hnil
    go_enter Try.func80, Try.ntmps80
    go_wp2
    go_ret
    exact ⟨_, rfl, Own.nil _ _ _ _ _, Below.refl _ _⟩
  | some ad =>
    clear hnil
    go_enter Try.func80, Try.ntmps80
    go_wp2_with (at_builtin; refine wpList_append_rd rfl _ _ 50 rfl w.heap.size 22 i0 (.int .u8 0) 1 1 Try.underlying50 hi hz0 hz1 hz2 rfl (by decide) (by decide) oneU8 oneU8_len oneU8_one _ [] rfl (own_nil0 w) _ xs rfl (HR.out.below ((Below.refl _ _).alloc (Nat.le_refl _) _)) (by simp; omega) (by simp) ?_; intro v1 w1 ho hr)
    go_wp2
    go_ret
    refine ⟨_, rfl, ?_, ?_⟩
    · simpa using ho
    · exact ((Below.refl _ w).alloc (Nat.le_refl _) _).grown hr.g (by simp) (fun k hk => by cases hk; exact Nat.le_refl _)
end Go.Proofs.Ythiapebodpkamaa

