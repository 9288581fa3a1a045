/- effect: variables. -/
import Derived.Test.YthiapebodpkamaaEffA
namespace Go.Proofs.Ythiapebodpkamaa
open Go.RowKit
set_option maxRecDepth 100000 in
set_option maxHeartbeats 4000000 in
theorem eff_2 (w : World) (X : Nat) (c : GCode) (vs bs is sp sv : Value) (i : GIns) (s : List Int) (hC : ChkAt w X c vs bs is sp) (hs : Rd oneU8 1 w sv s) (ho : i.op = 2) (hf : fitsB c i = true) : Calls Try.prog 78 #[.pointer (some ⟨X, 0, none⟩), vIns i, sv] w (EffPost w (effB c i s)) := by
  obtain ⟨op, t, a, n⟩ := i
  obtain rfl : op = 2 := ho
  obtain ⟨A, c0, rfl⟩ : ∃ A c0, sv = .slice A s.length c0 := by
    obtain ⟨_, A, c0, e, _⟩ := hs
    exact ⟨A, c0, e⟩
  obtain ⟨k0, k1, k2, k3, k4⟩ := hC.cells
  obtain ⟨a0, a1⟩ := fit_var hf (.inl rfl)
  replace a0 : 0 ≤ a := a0
  replace a1 : a < c.vars.length := a1
  have hv := hC.rd.vars
  have hX := hC.lt
  obtain ⟨l0, Av, cv, rfl, l1, -, hcl⟩ := hv
  obtain ⟨bv, ov, rfl, hcl2⟩ := hcl (by omega)
  obtain ⟨ka, rfl⟩ : ∃ k : Nat, a = k := ⟨a.toNat, by omega⟩
  have hka : ka < c.vars.length := by omega
  obtain ⟨v, hv⟩ : ∃ v, c.vars[ka] = v := ⟨_, rfl⟩
  have ct := hcl2 ka hka 2 (.int .u8 c.vars[ka].ty) rfl
  rw [hv] at ct
  have hty : varTy c (ka : Int) = v.ty := by simp only [varTy, Int.toNat_natCast, List.getElem?_eq_getElem hka, hv]
  have HTY := Fact.mk hty
  have lv := World.block_lt_of_cell? w _ ct
  clear hcl hcl2 hs hf hC hv hty k0 k2 k3 k4
  unfold vIns
  go_enter Try.func78, Try.ntmps78
  go_wp2_with fail
  go_region_with (go_at_call 90; refine (id_any _ _ _ _ rfl _).mono ?_; rintro e w1 ⟨rfl, rfl⟩)
  all_goals go_wp2
  all_goals go_ret2
  all_goals refine eff_puts (T := 22) (m1 := w.heap.size + 1) [v.ty] (by rw [← HTY.out]; rfl) rfl (by simp) ?_ ?_
  all_goals first
    | exact (duo w _ _).1
    | exact (duo w _ _).2
set_option maxRecDepth 100000 in
set_option maxHeartbeats 4000000 in
theorem eff_3 (w : World) (X : Nat) (c : GCode) (vs bs is sp sv : Value) (i : GIns) (s : List Int) (hC : ChkAt w X c vs bs is sp) (hs : Rd oneU8 1 w sv s) (ho : i.op = 3) (hf : fitsB c i = true) : Calls Try.prog 78 #[.pointer (some ⟨X, 0, none⟩), vIns i, sv] w (EffPost w (effB c i s)) := by
  obtain ⟨op, t, a, n⟩ := i
  obtain rfl : op = 3 := ho
  obtain ⟨A, c0, rfl⟩ : ∃ A c0, sv = .slice A s.length c0 := by
    obtain ⟨_, A, c0, e, _⟩ := hs
    exact ⟨A, c0, e⟩
  obtain ⟨k0, k1, k2, k3, k4⟩ := hC.cells
  obtain ⟨a0, a1⟩ := fit_var hf (.inr rfl)
  replace a0 : 0 ≤ a := a0
  replace a1 : a < c.vars.length := a1
  have hv := hC.rd.vars
  have hX := hC.lt
  obtain ⟨l0, Av, cv, rfl, l1, -, hcl⟩ := hv
  obtain ⟨bv, ov, rfl, hcl2⟩ := hcl (by omega)
  obtain ⟨ka, rfl⟩ : ∃ k : Nat, a = k := ⟨a.toNat, by omega⟩
  have hka : ka < c.vars.length := by omega
  obtain ⟨v, hv⟩ : ∃ v, c.vars[ka] = v := ⟨_, rfl⟩
  have ct := hcl2 ka hka 2 (.int .u8 c.vars[ka].ty) rfl
  rw [hv] at ct
  have hty : varTy c (ka : Int) = v.ty := by simp only [varTy, Int.toNat_natCast, List.getElem?_eq_getElem hka, hv]
  have HTY := Fact.mk hty
  have lv := World.block_lt_of_cell? w _ ct
  clear hcl hcl2 hs hf hC hv hty k0 k2 k3 k4
  unfold vIns
  go_enter Try.func78, Try.ntmps78
  go_wp2_with fail
  go_region_with (go_at_call 90; refine (id_any _ _ _ _ rfl _).mono ?_; rintro e w1 ⟨rfl, rfl⟩)
  all_goals go_wp2
  all_goals go_ret2
  all_goals refine eff_takes (T := 22) (m1 := w.heap.size + 1) [v.ty] (by rw [← HTY.out]; rfl) rfl (by simp) ?_ ?_
  all_goals first
    | exact (duo w _ _).1
    | exact (duo w _ _).2
end Go.Proofs.Ythiapebodpkamaa

