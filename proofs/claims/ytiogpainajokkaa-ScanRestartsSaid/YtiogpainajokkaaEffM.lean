/- effect: pushes, tests. -/
import Derived.Test.YtiogpainajokkaaChkM
namespace Go.Proofs.Ytiogpainajokkaa
open Go.RowKit
set_option maxRecDepth 100000 in
set_option maxHeartbeats 4000000 in
theorem eff_1 (w : World) (X : Nat) (c : GCode) (vs bs is sp sv : Value) (i : GIns) (s : List Int) (_hC : ChkAt w X c vs bs is sp) (hs : Rd oneU8 1 w sv s) (ho : i.op = 1) (hf : fitsB c i = true) : Calls Try.prog 120 #[.pointer (some ⟨X, 0, none⟩), vIns i, sv] w (EffPost w (effB c i s)) := by
  obtain ⟨op, t, a, n⟩ := i
  obtain rfl : op = 1 := ho
  obtain ⟨A, c0, rfl⟩ : ∃ A c0, sv = .slice A s.length c0 := by
    obtain ⟨_, A, c0, e, _⟩ := hs
    exact ⟨A, c0, e⟩
  clear hs hf _hC
  unfold vIns
  go_enter Try.func120, Try.ntmps120
  go_wp2_with (go_at_call 152; refine (id_any _ _ _ _ rfl _).mono ?_; rintro e w1 ⟨rfl, rfl⟩)
  go_ret2
  exact ⟨_, _, rfl, rd_nil _ _ _, rd_at (by simp) [t] _ (by simp), ((Below.refl _ _).alloc (Nat.le_refl _) _).alloc (by simp) _⟩
set_option maxRecDepth 100000 in
set_option maxHeartbeats 4000000 in
theorem eff_13 (w : World) (X : Nat) (c : GCode) (vs bs is sp sv : Value) (i : GIns) (s : List Int) (_hC : ChkAt w X c vs bs is sp) (hs : Rd oneU8 1 w sv s) (ho : i.op = 13) (hf : fitsB c i = true) : Calls Try.prog 120 #[.pointer (some ⟨X, 0, none⟩), vIns i, sv] w (EffPost w (effB c i s)) := by
  obtain ⟨op, t, a, n⟩ := i
  obtain rfl : op = 13 := ho
  obtain ⟨A, c0, rfl⟩ : ∃ A c0, sv = .slice A s.length c0 := by
    obtain ⟨_, A, c0, e, _⟩ := hs
    exact ⟨A, c0, e⟩
  clear hs hf _hC
  unfold vIns
  go_enter Try.func120, Try.ntmps120
  go_wp2_with (go_at_call 152; refine (id_any _ _ _ _ rfl _).mono ?_; rintro e w1 ⟨rfl, rfl⟩)
  go_ret2
  exact ⟨_, _, rfl, (rd_at (w := w.alloc _) (by simp) [t, t] _ (by simp)).below ((Below.refl _ _).alloc (Nat.le_refl _) _), rd_at (by simp) [1] _ (by simp), (((Below.refl _ _).alloc (Nat.le_refl _) _).alloc (by simp) _).alloc (by simp; omega) _⟩
set_option maxRecDepth 100000 in
set_option maxHeartbeats 4000000 in
theorem eff_14 (w : World) (X : Nat) (c : GCode) (vs bs is sp sv : Value) (i : GIns) (s : List Int) (_hC : ChkAt w X c vs bs is sp) (hs : Rd oneU8 1 w sv s) (ho : i.op = 14) (hf : fitsB c i = true) : Calls Try.prog 120 #[.pointer (some ⟨X, 0, none⟩), vIns i, sv] w (EffPost w (effB c i s)) := by
  obtain ⟨op, t, a, n⟩ := i
  obtain rfl : op = 14 := ho
  obtain ⟨A, c0, rfl⟩ : ∃ A c0, sv = .slice A s.length c0 := by
    obtain ⟨_, A, c0, e, _⟩ := hs
    exact ⟨A, c0, e⟩
  clear hs hf _hC
  unfold vIns
  go_enter Try.func120, Try.ntmps120
  go_wp2_with (go_at_call 152; refine (id_any _ _ _ _ rfl _).mono ?_; rintro e w1 ⟨rfl, rfl⟩)
  go_ret2
  exact ⟨_, _, rfl, (rd_at (w := w.alloc _) (by simp) [t, t] _ (by simp)).below ((Below.refl _ _).alloc (Nat.le_refl _) _), rd_at (by simp) [1] _ (by simp), (((Below.refl _ _).alloc (Nat.le_refl _) _).alloc (by simp) _).alloc (by simp; omega) _⟩
set_option maxRecDepth 100000 in
set_option maxHeartbeats 4000000 in
theorem eff_19 (w : World) (X : Nat) (c : GCode) (vs bs is sp sv : Value) (i : GIns) (s : List Int) (_hC : ChkAt w X c vs bs is sp) (hs : Rd oneU8 1 w sv s) (ho : i.op = 19) (hf : fitsB c i = true) : Calls Try.prog 120 #[.pointer (some ⟨X, 0, none⟩), vIns i, sv] w (EffPost w (effB c i s)) := by
  obtain ⟨op, t, a, n⟩ := i
  obtain rfl : op = 19 := ho
  obtain ⟨A, c0, rfl⟩ : ∃ A c0, sv = .slice A s.length c0 := by
    obtain ⟨_, A, c0, e, _⟩ := hs
    exact ⟨A, c0, e⟩
  clear hs hf _hC
  unfold vIns
  go_enter Try.func120, Try.ntmps120
  go_wp2_with (go_at_call 152; refine (id_any _ _ _ _ rfl _).mono ?_; rintro e w1 ⟨rfl, rfl⟩)
  go_ret2
  exact ⟨_, _, rfl, rd_at (by simp) [1] _ (by simp), rd_nil _ _ _, ((Below.refl _ _).alloc (Nat.le_refl _) _).alloc (by simp) _⟩
end Go.Proofs.Ytiogpainajokkaa

namespace Go.Proofs.Ytiogpainajokkaa
open Go.RowKit
set_option maxRecDepth 100000 in
set_option maxHeartbeats 4000000 in
theorem eff_2 (w : World) (X : Nat) (c : GCode) (vs bs is sp sv : Value) (i : GIns) (s : List Int) (hC : ChkAt w X c vs bs is sp) (hs : Rd oneU8 1 w sv s) (ho : i.op = 2) (hf : fitsB c i = true) : Calls Try.prog 120 #[.pointer (some ⟨X, 0, none⟩), vIns i, sv] w (EffPost w (effB c i s)) := by
  obtain ⟨op, t, a, n⟩ := i
  obtain rfl : op = 2 := ho
  obtain ⟨A, c0, rfl⟩ : ∃ A c0, sv = .slice A s.length c0 := by
    obtain ⟨_, A, c0, e, _⟩ := hs
    exact ⟨A, c0, e⟩
  obtain ⟨k0, k1, k2, k3, k4⟩ := hC.cells
  obtain ⟨a0, a1⟩ := fit_var hf (.inl rfl)
  replace a0 : 0 ≤ a := a0
  replace a1 : a < c.vars.length := a1
  have hv := hC.rd.vars
  have hX := hC.lt
  obtain ⟨l0, Av, cv, rfl, l1, -, hcl⟩ := hv
  obtain ⟨bv, ov, rfl, hcl2⟩ := hcl (by omega)
  obtain ⟨ka, rfl⟩ : ∃ k : Nat, a = k := ⟨a.toNat, by omega⟩
  have hka : ka < c.vars.length := by omega
  obtain ⟨v, hv⟩ : ∃ v, c.vars[ka] = v := ⟨_, rfl⟩
  have ct := hcl2 ka hka 2 (.int .u8 c.vars[ka].ty) rfl
  rw [hv] at ct
  have hty : varTy c (ka : Int) = v.ty := by simp only [varTy, Int.toNat_natCast, List.getElem?_eq_getElem hka, hv]
  have HTY := Fact.mk hty
  have lv := World.block_lt_of_cell? w _ ct
  clear hcl hcl2 hs hf hC hv hty k0 k2 k3 k4
  unfold vIns
  go_enter Try.func120, Try.ntmps120
  go_wp2_with fail
  go_region_with (go_at_call 152; refine (id_any _ _ _ _ rfl _).mono ?_; rintro e w1 ⟨rfl, rfl⟩)
  all_goals go_wp2
  all_goals go_ret2
  all_goals refine eff_puts (T := 41) (m1 := w.heap.size + 1) [v.ty] (by rw [← HTY.out]; rfl) rfl (by simp) ?_ ?_
  all_goals first
    | exact (duo w _ _).1
    | exact (duo w _ _).2
set_option maxRecDepth 100000 in
set_option maxHeartbeats 4000000 in
theorem eff_3 (w : World) (X : Nat) (c : GCode) (vs bs is sp sv : Value) (i : GIns) (s : List Int) (hC : ChkAt w X c vs bs is sp) (hs : Rd oneU8 1 w sv s) (ho : i.op = 3) (hf : fitsB c i = true) : Calls Try.prog 120 #[.pointer (some ⟨X, 0, none⟩), vIns i, sv] w (EffPost w (effB c i s)) := by
  obtain ⟨op, t, a, n⟩ := i
  obtain rfl : op = 3 := ho
  obtain ⟨A, c0, rfl⟩ : ∃ A c0, sv = .slice A s.length c0 := by
    obtain ⟨_, A, c0, e, _⟩ := hs
    exact ⟨A, c0, e⟩
  obtain ⟨k0, k1, k2, k3, k4⟩ := hC.cells
  obtain ⟨a0, a1⟩ := fit_var hf (.inr rfl)
  replace a0 : 0 ≤ a := a0
  replace a1 : a < c.vars.length := a1
  have hv := hC.rd.vars
  have hX := hC.lt
  obtain ⟨l0, Av, cv, rfl, l1, -, hcl⟩ := hv
  obtain ⟨bv, ov, rfl, hcl2⟩ := hcl (by omega)
  obtain ⟨ka, rfl⟩ : ∃ k : Nat, a = k := ⟨a.toNat, by omega⟩
  have hka : ka < c.vars.length := by omega
  obtain ⟨v, hv⟩ : ∃ v, c.vars[ka] = v := ⟨_, rfl⟩
  have ct := hcl2 ka hka 2 (.int .u8 c.vars[ka].ty) rfl
  rw [hv] at ct
  have hty : varTy c (ka : Int) = v.ty := by simp only [varTy, Int.toNat_natCast, List.getElem?_eq_getElem hka, hv]
  have HTY := Fact.mk hty
  have lv := World.block_lt_of_cell? w _ ct
  clear hcl hcl2 hs hf hC hv hty k0 k2 k3 k4
  unfold vIns
  go_enter Try.func120, Try.ntmps120
  go_wp2_with fail
  go_region_with (go_at_call 152; refine (id_any _ _ _ _ rfl _).mono ?_; rintro e w1 ⟨rfl, rfl⟩)
  all_goals go_wp2
  all_goals go_ret2
  all_goals refine eff_takes (T := 41) (m1 := w.heap.size + 1) [v.ty] (by rw [← HTY.out]; rfl) rfl (by simp) ?_ ?_
  all_goals first
    | exact (duo w _ _).1
    | exact (duo w _ _).2
end Go.Proofs.Ytiogpainajokkaa

namespace Go.Proofs.Ytiogpainajokkaa
open Go.RowKit
set_option maxRecDepth 100000 in
set_option maxHeartbeats 4000000 in
theorem oth_16 (w : World) (X : Nat) (c : GCode) (vs bs is sp sv : Value) (i : GIns) (s : List Int) (_hC : ChkAt w X c vs bs is sp) (hs : Rd oneU8 1 w sv s) (ho : i.op = 16) (hf : fitsB c i = true) : Calls Try.prog 153 #[.pointer (some ⟨X, 0, none⟩), vIns i, sv] w (EffPost w (effB c i s)) := by
  obtain ⟨op, t, a, n⟩ := i
  obtain rfl : op = 16 := ho
  clear hf _hC
  unfold vIns
  cases s with
  | nil =>
    obtain ⟨A, c0, rfl⟩ : ∃ A c0, sv = .slice A 0 c0 := by
      obtain ⟨_, A, c0, e, _⟩ := hs
      exact ⟨A, c0, e⟩
    clear hs
    go_enter Try.func153, Try.ntmps153
    go_wp2
    go_ret2
    exact eff_pair (T := 41) (m1 := w.heap.size + 1) (m2 := w.heap.size + 1 + 1) [0] [0, 0] rfl rfl (by simp) (by simp) (tri0 w _ _ _).1 (tri0 w _ _ _).2.1 (tri0 w _ _ _).2.2
  | cons y l =>
    obtain ⟨b, off, c0, rfl, hc, hm⟩ := hs.last8 l.length (by simp)
    obtain ⟨x, hx⟩ : ∃ x, (y :: l).getLastD 0 = x := ⟨_, rfl⟩
    have he : effB c ⟨16, t, a, n⟩ (y :: l) = ([x], [x, x]) := by rw [← hx]; rfl
    rw [hx] at hc
    rw [he]
    have lb := World.block_lt_of_cell? w _ hc
    clear hs hx he
    go_enter Try.func153, Try.ntmps153
    go_wp2
    go_ret2
    exact eff_pair (T := 41) (m1 := w.heap.size + 1) (m2 := w.heap.size + 1 + 1) [x] [x, x] rfl rfl (by simp) (by simp) (tri0 w _ _ _).1 (tri0 w _ _ _).2.1 (tri0 w _ _ _).2.2
set_option maxRecDepth 100000 in
set_option maxHeartbeats 4000000 in
theorem oth_17 (w : World) (X : Nat) (c : GCode) (vs bs is sp sv : Value) (i : GIns) (s : List Int) (_hC : ChkAt w X c vs bs is sp) (hs : Rd oneU8 1 w sv s) (ho : i.op = 17) (hf : fitsB c i = true) : Calls Try.prog 153 #[.pointer (some ⟨X, 0, none⟩), vIns i, sv] w (EffPost w (effB c i s)) := by
  obtain ⟨op, t, a, n⟩ := i
  obtain rfl : op = 17 := ho
  clear hf _hC
  unfold vIns
  cases s with
  | nil =>
    obtain ⟨A, c0, rfl⟩ : ∃ A c0, sv = .slice A 0 c0 := by
      obtain ⟨_, A, c0, e, _⟩ := hs
      exact ⟨A, c0, e⟩
    clear hs
    go_enter Try.func153, Try.ntmps153
    go_wp2
    go_ret2
    exact eff_takes (T := 41) (m1 := w.heap.size + 1) [0] rfl rfl (by simp) (duo0 w _ _).1 (duo0 w _ _).2
  | cons y l =>
    obtain ⟨b, off, c0, rfl, hc, hm⟩ := hs.last8 l.length (by simp)
    obtain ⟨x, hx⟩ : ∃ x, (y :: l).getLastD 0 = x := ⟨_, rfl⟩
    have he : effB c ⟨17, t, a, n⟩ (y :: l) = ([x], []) := by rw [← hx]; rfl
    rw [hx] at hc
    rw [he]
    have lb := World.block_lt_of_cell? w _ hc
    clear hs hx he
    go_enter Try.func153, Try.ntmps153
    go_wp2
    go_ret2
    exact eff_takes (T := 41) (m1 := w.heap.size + 1) [x] rfl rfl (by simp) (duo0 w _ _).1 (duo0 w _ _).2
end Go.Proofs.Ytiogpainajokkaa

namespace Go.Proofs.Ytiogpainajokkaa
open Go.RowKit
set_option maxRecDepth 100000 in
set_option maxHeartbeats 4000000 in
theorem oth_20 (w : World) (X : Nat) (c : GCode) (vs bs is sp sv : Value) (i : GIns) (s : List Int) (hC : ChkAt w X c vs bs is sp) (hs : Rd oneU8 1 w sv s) (ho : i.op = 20) (hf : fitsB c i = true) : Calls Try.prog 153 #[.pointer (some ⟨X, 0, none⟩), vIns i, sv] w (EffPost w (effB c i s)) := by
  obtain ⟨op, t, a, n⟩ := i
  obtain rfl : op = 20 := ho
  obtain ⟨A, c0, rfl⟩ : ∃ A c0, sv = .slice A s.length c0 := by
    obtain ⟨_, A, c0, e, _⟩ := hs
    exact ⟨A, c0, e⟩
  obtain ⟨k0, k1, k2, k3, k4⟩ := hC.cells
  obtain ⟨a0, a1⟩ := fit_block hf (.inl rfl)
  replace a0 : 0 ≤ a := a0
  replace a1 : a < c.blocks.length := a1
  have hX := hC.lt
  obtain ⟨ka, rfl⟩ : ∃ k : Nat, a = k := ⟨a.toNat, by omega⟩
  have hka : ka < c.blocks.length := by omega
  obtain ⟨bv, ov, cv, rfl, ct, l0, l1⟩ := hC.rd.blocks.at8 ka hka
  obtain ⟨kk, hkk⟩ : ∃ kk, c.blocks[ka] = kk := ⟨_, rfl⟩
  rw [hkk] at ct
  have hd : c.blocks.getD ((ka : Int)).toNat 0 = kk := by rw [Int.toNat_natCast, List.getD_eq_getElem?_getD, List.getElem?_eq_getElem hka, ← hkk]; rfl
  have lv := World.block_lt_of_cell? w _ ct
  have he : effB c ⟨20, t, (ka : Int), n⟩ s = (pinsIn kk, []) := by show (pinsIn (c.blocks.getD ((ka : Int)).toNat 0), _) = _; rw [hd]
  rw [he]
  clear hf hC hd hkk he k0 k1 k3 k4
  unfold vIns
  have TOP := Fact.mk hs
  clear hs
  go_enter Try.func153, Try.ntmps153
  go_upto_if 15 with (fail)
  go_cut [] (fun wx => wx = w.alloc (.cells #[.int .u8 20, .int .u8 t, .int .i64 (ka : Int), .int .i64 n] 49))
  case first =>
    clear k2 ct lv a0 a1
    cases s with
    | nil =>
      go_wp2_with fail
      go_meet
      exact rfl
    | cons y l =>
      obtain ⟨b, off, c1, e, hc, hm⟩ := TOP.out.last8 l.length (by simp)
      cases e
      have lb := World.block_lt_of_cell? w _ hc
      have hp : 0 < (y :: l).length := by simp
      go_wp2_with fail
      go_meet
      exact rfl
  case rest =>
  obtain rfl := hcut
  go_wp2_with fail
  go_region_with (go_at_call 134; refine (pins_any _ _).mono ?_; rintro e w1 ⟨v1, v2, rfl, ho1, ho2, hb1⟩; obtain ⟨P1, p1, rfl⟩ := ho1.slice2; obtain ⟨P2, p2, rfl⟩ := ho2.slice2; have O1 := Fact.mk ho1; have O2 := Fact.mk ho2; have BB := Fact.mk ((((Below.refl w.heap.size w).alloc (Nat.le_refl _) _).drew).trans (hb1.mono (by simp))); have RB := Fact.mk ((hb1.block w.heap.size (by simp)).trans (heap_alloc_new w _)); clear ho1 ho2 hb1)
  all_goals go_wp2
  all_goals go_ret2
  all_goals exact ⟨_, _, rfl, O1.out.rd oneU8_len, rd_nil _ _ _, BB.out⟩
set_option maxRecDepth 100000 in
set_option maxHeartbeats 4000000 in
theorem oth_21 (w : World) (X : Nat) (c : GCode) (vs bs is sp sv : Value) (i : GIns) (s : List Int) (hC : ChkAt w X c vs bs is sp) (hs : Rd oneU8 1 w sv s) (ho : i.op = 21) (hf : fitsB c i = true) : Calls Try.prog 153 #[.pointer (some ⟨X, 0, none⟩), vIns i, sv] w (EffPost w (effB c i s)) := by
  obtain ⟨op, t, a, n⟩ := i
  obtain rfl : op = 21 := ho
  obtain ⟨A, c0, rfl⟩ : ∃ A c0, sv = .slice A s.length c0 := by
    obtain ⟨_, A, c0, e, _⟩ := hs
    exact ⟨A, c0, e⟩
  obtain ⟨n0, n1⟩ := fit_pin hf rfl
  replace n0 : 0 ≤ n := n0
  replace n1 : n < (pinsOut (c.blocks.getD a.toNat 0)).length := n1
  obtain ⟨k0, k1, k2, k3, k4⟩ := hC.cells
  obtain ⟨a0, a1⟩ := fit_block hf (.inr rfl)
  replace a0 : 0 ≤ a := a0
  replace a1 : a < c.blocks.length := a1
  have hX := hC.lt
  obtain ⟨ka, rfl⟩ : ∃ k : Nat, a = k := ⟨a.toNat, by omega⟩
  have hka : ka < c.blocks.length := by omega
  obtain ⟨bv, ov, cv, rfl, ct, l0, l1⟩ := hC.rd.blocks.at8 ka hka
  obtain ⟨kk, hkk⟩ : ∃ kk, c.blocks[ka] = kk := ⟨_, rfl⟩
  rw [hkk] at ct
  have hd : c.blocks.getD ((ka : Int)).toNat 0 = kk := by rw [Int.toNat_natCast, List.getD_eq_getElem?_getD, List.getElem?_eq_getElem hka, ← hkk]; rfl
  have lv := World.block_lt_of_cell? w _ ct
  rw [hd] at n1
  obtain ⟨kn, rfl⟩ : ∃ k : Nat, n = k := ⟨n.toNat, by omega⟩
  have hkn : kn < (pinsOut kk).length := by omega
  have hl9 := pins_len kk
  have he : effB c ⟨21, t, (ka : Int), (kn : Int)⟩ s = ([], [(pinsOut kk)[kn]]) := by
    show ([], [pinTy (c.blocks.getD ((ka : Int)).toNat 0) (kn : Int)]) = _
    rw [hd]
    simp only [pinTy, Int.toNat_natCast, List.getD_eq_getElem?_getD, List.getElem?_eq_getElem hkn]
    rfl
  rw [he]
  clear hf hC hd hkk he k0 k1 k3 k4
  unfold vIns
  have TOP := Fact.mk hs
  clear hs
  go_enter Try.func153, Try.ntmps153
  go_upto_if 15 with (fail)
  go_cut [] (fun wx => wx = w.alloc (.cells #[.int .u8 21, .int .u8 t, .int .i64 (ka : Int), .int .i64 (kn : Int)] 49))
  case first =>
    clear k2 ct lv a0 a1
    cases s with
    | nil =>
      go_wp2_with fail
      go_meet
      exact rfl
    | cons y l =>
      obtain ⟨b, off, c1, e, hc, hm⟩ := TOP.out.last8 l.length (by simp)
      cases e
      have lb := World.block_lt_of_cell? w _ hc
      have hp : 0 < (y :: l).length := by simp
      go_wp2_with fail
      go_meet
      exact rfl
  case rest =>
  obtain rfl := hcut
  go_wp2_with fail
  go_region_with (go_at_call 134; refine (pins_any _ _).mono ?_; rintro e w1 ⟨v1, v2, rfl, ho1, ho2, hb1⟩; obtain ⟨P1, p1, rfl⟩ := ho1.slice2; obtain ⟨P2, p2, rfl⟩ := ho2.slice2; have O1 := Fact.mk ho1; have O2 := Fact.mk ho2; have BB := Fact.mk ((((Below.refl w.heap.size w).alloc (Nat.le_refl _) _).drew).trans (hb1.mono (by simp))); have RB := Fact.mk ((hb1.block w.heap.size (by simp)).trans (heap_alloc_new w _)); clear ho1 ho2 hb1)
  all_goals
    obtain ⟨B3, o3, C3, e3, c3, l3, l4⟩ := (O2.out.rd oneU8_len).at8 kn hkn
    cases e3
    have cn : w1.cell? ⟨w.heap.size, 3, none⟩ = some (.int .i64 (kn : Int)) := by rw [cell_of_row _ _ 3 _ _ _ RB.out]; rfl
    have i1 : (kn : Int) + 1 ≤ (p2 : Int) := by omega
    have i2 : IntKind.i64.wrap ((kn : Int) + 1) = (kn : Int) + 1 := IntWalk.i64_in _ (by omega)
    have i3 : ((kn : Int) + 1).toNat = kn + 1 := by omega
    have i4 : 0 ≤ (kn : Int) + 1 := by omega
    go_wp2_with fail
    go_quiet (fail)
    go_wp2
    go_ret2
    exact ⟨_, _, rfl, rd_nil _ _ _, rd_one8 c3 (by omega), BB.out.trans ⟨rfl, rfl, rfl, Nat.le_refl _, fun _ _ => rfl⟩⟩
end Go.Proofs.Ytiogpainajokkaa

