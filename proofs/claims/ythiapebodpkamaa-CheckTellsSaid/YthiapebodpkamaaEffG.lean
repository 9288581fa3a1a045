/- effect: others: copies, drops. -/
import Derived.Test.YthiapebodpkamaaEffA
namespace Go.Proofs.Ythiapebodpkamaa
open Go.RowKit
set_option maxRecDepth 100000 in
set_option maxHeartbeats 4000000 in
theorem oth_16 (w : World) (X : Nat) (c : GCode) (vs bs is sp sv : Value) (i : GIns) (s : List Int) (_hC : ChkAt w X c vs bs is sp) (hs : Rd oneU8 1 w sv s) (ho : i.op = 16) (hf : fitsB c i = true) : Calls Try.prog 91 #[.pointer (some ⟨X, 0, none⟩), vIns i, sv] w (EffPost w (effB c i s)) := by
  obtain ⟨op, t, a, n⟩ := i
  obtain rfl : op = 16 := ho
  clear hf _hC
  unfold vIns
  cases s with
  | nil =>
    obtain ⟨A, c0, rfl⟩ : ∃ A c0, sv = .slice A 0 c0 := by
      obtain ⟨_, A, c0, e, _⟩ := hs
      exact ⟨A, c0, e⟩
    clear hs
    go_enter Try.func91, Try.ntmps91
    go_wp2
    go_ret2
    exact eff_pair (T := 22) (m1 := w.heap.size + 1) (m2 := w.heap.size + 1 + 1) [0] [0, 0] rfl rfl (by simp) (by simp) (tri0 w _ _ _).1 (tri0 w _ _ _).2.1 (tri0 w _ _ _).2.2
  | cons y l =>
    obtain ⟨b, off, c0, rfl, hc, hm⟩ := hs.last8 l.length (by simp)
    obtain ⟨x, hx⟩ : ∃ x, (y :: l).getLastD 0 = x := ⟨_, rfl⟩
    have he : effB c ⟨16, t, a, n⟩ (y :: l) = ([x], [x, x]) := by rw [← hx]; rfl
    rw [hx] at hc
    rw [he]
    have lb := World.block_lt_of_cell? w _ hc
    clear hs hx he
    go_enter Try.func91, Try.ntmps91
    go_wp2
    go_ret2
    exact eff_pair (T := 22) (m1 := w.heap.size + 1) (m2 := w.heap.size + 1 + 1) [x] [x, x] rfl rfl (by simp) (by simp) (tri0 w _ _ _).1 (tri0 w _ _ _).2.1 (tri0 w _ _ _).2.2
set_option maxRecDepth 100000 in
set_option maxHeartbeats 4000000 in
theorem oth_17 (w : World) (X : Nat) (c : GCode) (vs bs is sp sv : Value) (i : GIns) (s : List Int) (_hC : ChkAt w X c vs bs is sp) (hs : Rd oneU8 1 w sv s) (ho : i.op = 17) (hf : fitsB c i = true) : Calls Try.prog 91 #[.pointer (some ⟨X, 0, none⟩), vIns i, sv] w (EffPost w (effB c i s)) := by
  obtain ⟨op, t, a, n⟩ := i
  obtain rfl : op = 17 := ho
  clear hf _hC
  unfold vIns
  cases s with
  | nil =>
    obtain ⟨A, c0, rfl⟩ : ∃ A c0, sv = .slice A 0 c0 := by
      obtain ⟨_, A, c0, e, _⟩ := hs
      exact ⟨A, c0, e⟩
    clear hs
    go_enter Try.func91, Try.ntmps91
    go_wp2
    go_ret2
    exact eff_takes (T := 22) (m1 := w.heap.size + 1) [0] rfl rfl (by simp) (duo0 w _ _).1 (duo0 w _ _).2
  | cons y l =>
    obtain ⟨b, off, c0, rfl, hc, hm⟩ := hs.last8 l.length (by simp)
    obtain ⟨x, hx⟩ : ∃ x, (y :: l).getLastD 0 = x := ⟨_, rfl⟩
    have he : effB c ⟨17, t, a, n⟩ (y :: l) = ([x], []) := by rw [← hx]; rfl
    rw [hx] at hc
    rw [he]
    have lb := World.block_lt_of_cell? w _ hc
    clear hs hx he
    go_enter Try.func91, Try.ntmps91
    go_wp2
    go_ret2
    exact eff_takes (T := 22) (m1 := w.heap.size + 1) [x] rfl rfl (by simp) (duo0 w _ _).1 (duo0 w _ _).2
end Go.Proofs.Ythiapebodpkamaa

