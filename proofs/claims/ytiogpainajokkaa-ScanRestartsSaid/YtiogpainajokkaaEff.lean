/- effect: the whole contract. -/
import Derived.Test.YtiogpainajokkaaEffM
import Derived.Test.YtiogpainajokkaaEffD
import Derived.Test.YtiogpainajokkaaEffE
namespace Go.Proofs.Ytiogpainajokkaa
open Go.RowKit
set_option maxRecDepth 100000 in
set_option maxHeartbeats 4000000 in
theorem oth_none (w : World) (X : Nat) (i : GIns) (c : GCode) (sv : Value) (s : List Int) (hs : Rd oneU8 1 w sv s) (ho : i.op = 18 ∨ i.op = 22) : Calls Try.prog 153 #[.pointer (some ⟨X, 0, none⟩), vIns i, sv] w (EffPost w (effB c i s)) := by
  obtain ⟨op, t, a, n⟩ := i
  have he : effB c ⟨op, t, a, n⟩ s = ([], []) := by
    rcases ho with ho | ho
    · obtain rfl : op = 18 := ho
      rfl
    · obtain rfl : op = 22 := ho
      rfl
  rw [he]
  clear he
  unfold vIns
  rcases ho with ho | ho
  all_goals
    obtain rfl : op = _ := ho
    cases s with
    | nil =>
      obtain ⟨A, c0, rfl⟩ : ∃ A c0, sv = .slice A 0 c0 := by
        obtain ⟨_, A, c0, e, _⟩ := hs
        exact ⟨A, c0, e⟩
      clear hs
      go_enter Try.func153, Try.ntmps153
      go_wp2
      go_ret2
      exact ⟨_, _, rfl, rd_nil _ _ _, rd_nil _ _ _, (Below.refl _ _).alloc (Nat.le_refl _) _⟩
    | cons y l =>
      obtain ⟨b, off, c0, rfl, hc, hm⟩ := hs.last8 l.length (by simp)
      have lb := World.block_lt_of_cell? w _ hc
      clear hs
      go_enter Try.func153, Try.ntmps153
      go_wp2
      go_ret2
      exact ⟨_, _, rfl, rd_nil _ _ _, rd_nil _ _ _, (Below.refl _ _).alloc (Nat.le_refl _) _⟩
theorem oth_any (w : World) (X : Nat) (c : GCode) (vs bs is sp sv : Value) (i : GIns) (s : List Int) (hC : ChkAt w X c vs bs is sp) (hs : Rd oneU8 1 w sv s) (ho : i.op = 16 ∨ i.op = 17 ∨ i.op = 18 ∨ i.op = 20 ∨ i.op = 21 ∨ i.op = 22) (hf : fitsB c i = true) : Calls Try.prog 153 #[.pointer (some ⟨X, 0, none⟩), vIns i, sv] w (EffPost w (effB c i s)) := by
  rcases ho with h | h | h | h | h | h
  · exact oth_16 w X c vs bs is sp sv i s hC hs h hf
  · exact oth_17 w X c vs bs is sp sv i s hC hs h hf
  · exact oth_none w X i c sv s hs (.inl h)
  · exact oth_20 w X c vs bs is sp sv i s hC hs h hf
  · exact oth_21 w X c vs bs is sp sv i s hC hs h hf
  · exact oth_none w X i c sv s hs (.inr h)
set_option maxRecDepth 100000 in
set_option maxHeartbeats 4000000 in
theorem eff_rest (w : World) (X : Nat) (c : GCode) (vs bs is sp sv : Value) (i : GIns) (s : List Int) (hC : ChkAt w X c vs bs is sp) (hs : Rd oneU8 1 w sv s) (ho : i.op = 16 ∨ i.op = 17 ∨ i.op = 18 ∨ i.op = 20 ∨ i.op = 21 ∨ i.op = 22) (hf : fitsB c i = true) : Calls Try.prog 120 #[.pointer (some ⟨X, 0, none⟩), vIns i, sv] w (EffPost w (effB c i s)) := by
  have ho2 := ho
  obtain ⟨op, t, a, n⟩ := i
  have hb := (Below.refl w.heap.size w).alloc (Nat.le_refl _) (Obj.cells #[.int .u8 op, .int .u8 t, .int .i64 a, .int .i64 n] 49)
  have H := Fact.mk (oth_any _ X c vs bs is sp sv ⟨op, t, a, n⟩ s (hC.below hb) (hs.below hb) ho hf)
  have HB := Fact.mk hb
  obtain ⟨r, hr⟩ : ∃ r, effB c ⟨op, t, a, n⟩ s = r := ⟨_, rfl⟩
  rw [hr] at H ⊢
  obtain ⟨A, c0, rfl⟩ : ∃ A c0, sv = .slice A s.length c0 := by
    obtain ⟨_, A, c0, e, _⟩ := hs
    exact ⟨A, c0, e⟩
  clear hs hf hC ho hb hr
  unfold vIns at H ⊢
  rcases ho2 with h | h | h | h | h | h
  all_goals
    obtain rfl : op = _ := h
    go_enter Try.func120, Try.ntmps120
    go_wp2_with fail
    refine H.out.mono ?_
    rintro e W1 ⟨v1, v2, rfl, r1, r2, hb1⟩
    obtain ⟨_, A1, c1, rfl, _⟩ := id r1
    obtain ⟨_, A2, c2, rfl, _⟩ := id r2
    have R1 := Fact.mk r1
    have R2 := Fact.mk r2
    have B1 := Fact.mk (HB.out.trans (hb1.mono HB.out.size))
    clear r1 r2 hb1
    go_wp2
    go_ret2
    exact ⟨_, _, rfl, R1.out, R2.out, B1.out⟩
theorem eff_any (w : World) (X : Nat) (c : GCode) (vs bs is sp sv : Value) (i : GIns) (s : List Int) (hC : ChkAt w X c vs bs is sp) (hs : Rd oneU8 1 w sv s) (hg : 1 ≤ i.op ∧ i.op ≤ 22) (hf : fitsB c i = true) : Calls Try.prog 120 #[.pointer (some ⟨X, 0, none⟩), vIns i, sv] w (EffPost w (effB c i s)) := by
  rcases (by omega : i.op = 1 ∨ i.op = 2 ∨ i.op = 3 ∨ (4 ≤ i.op ∧ i.op ≤ 11) ∨ i.op = 12 ∨ i.op = 13 ∨ i.op = 14 ∨ i.op = 15 ∨ i.op = 19 ∨ (i.op = 16 ∨ i.op = 17 ∨ i.op = 18 ∨ i.op = 20 ∨ i.op = 21 ∨ i.op = 22)) with h | h | h | h | h | h | h | h | h | h
  · exact eff_1 w X c vs bs is sp sv i s hC hs h hf
  · exact eff_2 w X c vs bs is sp sv i s hC hs h hf
  · exact eff_3 w X c vs bs is sp sv i s hC hs h hf
  · exact eff_sign w X c vs bs is sp sv i s hC hs h hf
  · exact eff_12 w X c vs bs is sp sv i s hC hs h hf
  · exact eff_13 w X c vs bs is sp sv i s hC hs h hf
  · exact eff_14 w X c vs bs is sp sv i s hC hs h hf
  · exact eff_15 w X c vs bs is sp sv i s hC hs h hf
  · exact eff_19 w X c vs bs is sp sv i s hC hs h hf
  · exact eff_rest w X c vs bs is sp sv i s hC hs h hf
end Go.Proofs.Ytiogpainajokkaa

