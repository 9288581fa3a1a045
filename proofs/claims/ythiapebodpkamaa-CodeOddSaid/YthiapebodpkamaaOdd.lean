/- The walk of the law CodeOdd. -/
import Derived.Test.YthiapebodpkamaaGreat
import Derived.Test.YthiapebodpkamaaOddA
import Derived.Test.YthiapebodpkamaaStore
import Derived.Deep.QuietTactic
import Derived.BigQuiet
import Derived.Outline
namespace Go.Proofs.Ythiapebodpkamaa
open Go.RowKit
theorem odd7 {c : GCode} : rightB { c with name := ⟨#[]⟩ } = false := by
  have h : namedB ⟨#[]⟩ = false := by decide
  simp [rightB, h]
theorem odd6 {c : GCode} : rightB { c with blocks := c.blocks ++ [12] } = false := by
  cases h : rightB { c with blocks := c.blocks ++ [12] } with
  | false => rfl
  | true =>
    obtain ⟨_, _, _, _, _, _, hB, _⟩ := right_parts h
    have := (hB c.blocks.length (by simp)).2
    simp at this
theorem odd0 {c : GCode} : rightB { c with vars := c.vars ++ [⟨⟨#[118]⟩, 3, 2, 128⟩] } = false := by
  cases h : rightB { c with vars := c.vars ++ [⟨⟨#[118]⟩, 3, 2, 128⟩] } with
  | false => rfl
  | true =>
    obtain ⟨_, _, _, _, _, hV, _, _⟩ := right_parts h
    have := (hV c.vars.length (by simp)).1.first.2
    simp [rangeOf] at this
theorem odd1 {c : GCode} : rightB { c with vars := c.vars ++ [⟨⟨#[118]⟩, 3, 1, 0⟩, ⟨⟨#[118]⟩, 2, 4, 0⟩] } = false := by
  cases h : rightB { c with vars := c.vars ++ [⟨⟨#[118]⟩, 3, 1, 0⟩, ⟨⟨#[118]⟩, 2, 4, 0⟩] } with
  | false => rfl
  | true =>
    obtain ⟨_, _, _, _, _, hV, _, _⟩ := right_parts h
    have h5 := (hV (c.vars.length + 1) (by simp)).2
    rw [namesRev_succ _ c.vars.length (by simp)] at h5
    simp [memB] at h5
theorem odd2 {c : GCode} (kk : Nat) (hk : kk < c.ins.length) : rightB { c with ins := c.ins.set kk { c.ins[kk] with a := 5000 } } = false := by
  cases h : rightB { c with ins := c.ins.set kk { c.ins[kk] with a := 5000 } } with
  | false => rfl
  | true =>
    obtain ⟨_, hv, hb, _, hi, _, _, hI⟩ := right_parts h
    have := hI kk (by simpa using hk)
    simp only [List.getElem_set_self] at this
    have := (good_ins this hv hb hi).a.2
    simp at this
theorem odd3 {c : GCode} (kk : Nat) (hk : kk < c.ins.length) : rightB { c with ins := c.ins.set kk { c.ins[kk] with t := 6 } } = false := by
  cases h : rightB { c with ins := c.ins.set kk { c.ins[kk] with t := 6 } } with
  | false => rfl
  | true =>
    obtain ⟨_, _, _, _, _, _, _, hI⟩ := right_parts h
    have h5 := hI kk (by simpa using hk)
    simp only [List.getElem_set_self] at h5
    rcases shape_cases c.ins[kk].op with h0 | ⟨a0, a1, a2, hs, h0, h1, h2⟩
    · simp [fitsB, h0] at h5
    · simp only [fitsB, hs, Bool.and_eq_true] at h5
      have g0 := h5.1.1
      rcases h0 with rfl | rfl | rfl <;> simp [chk, belowB, typedB, wholeB] at g0
theorem odd4 {c : GCode} (kk : Nat) (hk : kk < c.ins.length) : rightB { c with ins := c.ins.set kk { c.ins[kk] with n := 8589934592 } } = false := by
  cases h : rightB { c with ins := c.ins.set kk { c.ins[kk] with n := 8589934592 } } with
  | false => rfl
  | true =>
    obtain ⟨_, hv, hb, _, hi, _, _, hI⟩ := right_parts h
    have := hI kk (by simpa using hk)
    simp only [List.getElem_set_self] at this
    have := (good_ins this hv hb hi).n.2
    simp at this
theorem odd5 {c : GCode} (kk : Nat) (hk : kk < c.ins.length) : rightB { c with ins := c.ins.set kk { c.ins[kk] with op := 23 } } = false := by
  cases h : rightB { c with ins := c.ins.set kk { c.ins[kk] with op := 23 } } with
  | false => rfl
  | true =>
    obtain ⟨_, hv, hb, _, hi, _, _, hI⟩ := right_parts h
    have := hI kk (by simpa using hk)
    simp only [List.getElem_set_self] at this
    have := (good_ins this hv hb hi).op.2
    simp at this
theorem own_at {α : Type} {E : TypeId} {k : Nat} {enc : α → List Value} {w : World} {base : Nat} {v : Value} {xs : List α} (h : Own E k enc w base v xs) (hp : 0 < xs.length) :
    ∃ g cap cur, v = .slice (some ⟨g, 0, none⟩) xs.length cap ∧ base ≤ g ∧ w.heap[g]? = some (.cells cur E (0, 0)) := by
  rcases h.2 with ⟨rfl, h2⟩ | ⟨g, cap, cur, rfl, hg, hh, _⟩
  · omega
  · exact ⟨g, cap, cur, rfl, hg, hh⟩
set_option maxHeartbeats 1000000 in
set_option maxRecDepth 100000 in
theorem codeOdd_any (c : GCode) (hw : c.Wf) (vs bs is : Value) (n m : Int) (hn0 : 0 ≤ n) (hn1 : n ≤ 65535) (hm0 : 0 ≤ m) (hm1 : m ≤ 65535) (w : World) (h : CodeRd w c vs bs is) (hn : c.name.size ≤ 9223372036854775807) (hv : ∀ x ∈ c.vars, x.name.size ≤ 9223372036854775807) :
    Calls Try.prog 4 #[.agg #[.string c.name, vs, bs, is], .int .u16 n, .int .u16 m] w fun e w' => e = .returned (.bool true) ∧ Below w.heap.size w w' := by
  obtain ⟨A1, c1, rfl⟩ : ∃ A c', vs = .slice A c.vars.length c' := by obtain ⟨_, A, c', h, _⟩ := h.vars; exact ⟨A, c', h⟩
  obtain ⟨A2, c2, rfl⟩ : ∃ A c', bs = .slice A c.blocks.length c' := by obtain ⟨_, A, c', h, _⟩ := h.blocks; exact ⟨A, c', h⟩
  obtain ⟨A3, c3, rfl⟩ : ∃ A c', is = .slice A c.ins.length c' := by obtain ⟨_, A, c', h, _⟩ := h.ins; exact ⟨A, c', h⟩
  have H := Fact.mk h
  have HV := Fact.mk hv
  clear h hv
  go_enter Try.func4, Try.ntmps4
  go_wp2_with fail
  obtain ⟨b1, b2, b3⟩ := one_block w (.cells #[.string c.name, .slice A1 c.vars.length c1, .slice A2 c.blocks.length c2, .slice A3 c.ins.length c3] 32)
  obtain ⟨w0, hW⟩ : ∃ w0, w0 = w.alloc (.cells #[.string c.name, .slice A1 c.vars.length c1, .slice A2 c.blocks.length c2, .slice A3 c.ins.length c3] 32) := ⟨_, rfl⟩
  rw [← hW] at b1 b2 b3 ⊢
  clear hW
  refine (great_any c _ _ _ w0 (H.out.below b1) hn HV.out).mono ?_
  rintro e w1 ⟨gr, rfl, hg, hb1⟩
  have hB1 := b1.trans (hb1.mono b1.size)
  have b2' : w1.heap[w.heap.size]? = some (.cells #[.string c.name, .slice A1 c.vars.length c1, .slice A2 c.blocks.length c2, .slice A3 c.ins.length c3] 32 (0, 0)) := by
    rw [hb1.block _ (Array.getElem?_eq_some_iff.1 b2).1]; exact b2
  have k0 : w1.cell? ⟨w.heap.size, 0, none⟩ = some (.string c.name) := by rw [cell_of_row _ _ 0 _ _ _ b2']; rfl
  have k1 : w1.cell? ⟨w.heap.size, 1, none⟩ = some (.slice A1 c.vars.length c1) := by rw [cell_of_row _ _ 1 _ _ _ b2']; rfl
  have k2 : w1.cell? ⟨w.heap.size, 2, none⟩ = some (.slice A2 c.blocks.length c2) := by rw [cell_of_row _ _ 2 _ _ _ b2']; rfl
  have k3 : w1.cell? ⟨w.heap.size, 3, none⟩ = some (.slice A3 c.ins.length c3) := by rw [cell_of_row _ _ 3 _ _ _ b2']; rfl
  have HB1 := Fact.mk hB1
  have B2 := Fact.mk b2'
  clear b1 b2 b3 hb1 hB1 b2'
  cases gr with
  | true =>
    clear hg
    go_wp2_with fail
    refine (awake_any _).mono ?_
    rintro e w2 ⟨rfl, hb2⟩
    go_wp2_with fail
    go_ret
    exact ⟨rfl, HB1.out.trans (hb2.mono HB1.out.size)⟩
  | false =>
    obtain ⟨l1, l2, l3, l4⟩ := hg rfl
    clear hg
    go_wp2_with fail
    refine (right_any c hw (by omega) _ _ _ w1 (H.out.below HB1.out)).mono ?_
    rintro e w2 ⟨rfl, hb2⟩
    by_cases hr : rightB c = true
    · rw [hr]
      have b2'' := (hb2.block _ (Array.getElem?_eq_some_iff.1 B2.out).1).trans B2.out
      have HB2 := Fact.mk (HB1.out.trans (hb2.mono HB1.out.size))
      have C : OCtx w.heap.size c.name A1 A2 A3 c1 c2 c3 c.vars c.blocks c.ins w2 :=
        ⟨by rw [cell_of_row _ _ 0 _ _ _ b2'']; rfl, by rw [cell_of_row _ _ 1 _ _ _ b2'']; rfl, by rw [cell_of_row _ _ 2 _ _ _ b2'']; rfl, by rw [cell_of_row _ _ 3 _ _ _ b2'']; rfl, (H.out.below HB2.out).vars, (H.out.below HB2.out).blocks, (H.out.below HB2.out).ins, by omega, by omega, by omega⟩
      have HR := Fact.mk hr
      clear k0 k1 k2 k3 B2 hb2 b2'' hr
      go_wp2_with fail
      refine odd_region C ?_
      intro u17 u18 u19 u20 u21 u22 u23 u24 u25 u26 u27 u28 u29 u30 u31 g v1 v2 v3 w3 hg hblk o1 o2 o3 hb3
      have HB3 := Fact.mk (HB2.out.trans (hb3.mono HB2.out.size))
      clear C hb3
      obtain ⟨⟨rn1, rn2⟩, rv, rb, ri1, ri2, rV, rB, rI⟩ := right_parts HR.out
      have RV := Fact.mk rV
      have RB := Fact.mk rB
      have RI := Fact.mk rI
      clear rV rB rI
      obtain ⟨g3, cap3, cur3, rfl, hg3, hh3⟩ := own_at o3 (by omega)
      have y0 : w3.cell? ⟨g, 0, none⟩ = some (.string c.name) := by rw [cell_of_row _ _ 0 _ _ _ hblk]; rfl
      have y1 : w3.cell? ⟨g, 1, none⟩ = some v1 := by rw [cell_of_row _ _ 1 _ _ _ hblk]; rfl
      have y2 : w3.cell? ⟨g, 2, none⟩ = some v2 := by rw [cell_of_row _ _ 2 _ _ _ hblk]; rfl
      have y3 : w3.cell? ⟨g, 3, none⟩ = some (.slice (some ⟨g3, 0, none⟩) c.ins.length cap3) := by rw [cell_of_row _ _ 3 _ _ _ hblk]; rfl
      have O1 := Fact.mk o1
      have O2 := Fact.mk o2
      have O3 := Fact.mk o3
      have HBL := Fact.mk hblk
      have HH3 := Fact.mk hh3
      clear o1 o2 o3 hblk hh3
      have p1 : (0 : Int) < (c.ins.length : Int) := by omega
      have p2 : n % (c.ins.length : Int) < (c.ins.length : Int) := Int.emod_lt_of_pos _ p1
      have p3 : 0 ≤ n % (c.ins.length : Int) := Int.emod_nonneg _ (by omega)
      have p5 : ¬ (c.ins.length : Int) = 0 := by omega
      have p6 : ((c.ins.length : Int) == 0) = false := by simpa using p5
      have p7 : ¬ c.ins = [] := by intro e; rw [e] at p1; simp at p1
      have p4 : IntKind.i64.wrap n = n := by rw [IntKind.wrap_i64]; omega
      go_wp2_with fail
      go_quiet (fail)
      obtain ⟨kk, hkk, hk⟩ : ∃ kk : Nat, (n % (c.ins.length : Int)).toNat = kk ∧ kk < c.ins.length := ⟨_, rfl, by omega⟩
      rw [hkk]
      have O1' : Own 41 4 encVar (w3.drewN nq) w2.heap.size v1 c.vars := O1.out
      have O2' : Own 42 1 oneU8 (w3.drewN nq) w2.heap.size v2 c.blocks := O2.out
      have O3' : Own 38 4 encIns (w3.drewN nq) w2.heap.size (.slice (some ⟨g3, 0, none⟩) c.ins.length cap3) c.ins := O3.out
      have HBL' : (w3.drewN nq).heap[g]? = some (.cells #[.string c.name, v1, v2, .slice (some ⟨g3, 0, none⟩) c.ins.length cap3] 32 (0, 0)) := HBL.out
      have HH3' : (w3.drewN nq).heap[g3]? = some (.cells cur3 38 (0, 0)) := HH3.out
      have HB4 : Below w.heap.size w (w3.drewN nq) := HB3.out.trans ⟨rfl, rfl, rfl, Nat.le_refl _, fun _ _ => rfl⟩
      clear O1 O2 O3 HBL HH3 HB3 y0 y1 y2 y3 p1 p2 p3 p4 p5 p6 p7 hkk
      generalize w3.drewN nq = w4 at *
      have hle : w.heap.size ≤ w2.heap.size := HB2.out.size
      have O1 := Fact.mk O1'
      have O2 := Fact.mk O2'
      have O3 := Fact.mk O3'
      have HBL := Fact.mk HBL'
      have HH3 := Fact.mk HH3'
      have HB := Fact.mk HB4
      clear O1' O2' O3' HBL' HH3' HB4 HB2
      rcases (by omega : m % 8 = 0 ∨ m % 8 = 1 ∨ m % 8 = 2 ∨ m % 8 = 3 ∨ m % 8 = 4 ∨ m % 8 = 5 ∨ m % 8 = 6 ∨ m % 8 = 7) with hr | hr | hr | hr | hr | hr | hr | hr
      case inr.inr.inr.inr.inr.inr.inr =>
        have f0 := frozen_of_row w4 g 0 _ _ HBL.out
        have y0 : w4.cell? ⟨g, 0, none⟩ = some (.string c.name) := by rw [cell_of_row _ _ 0 _ _ _ HBL.out]; rfl
        have hb5 := set4_0 (u := .string ⟨#[]⟩) HBL.out
        have z0 : (w4.setCell ⟨g, 0, none⟩ (.string ⟨#[]⟩)).cell? ⟨g, 0, none⟩ = some (.string ⟨#[]⟩) := by rw [cell_of_row _ _ 0 _ _ _ hb5]; rfl
        have z1 : (w4.setCell ⟨g, 0, none⟩ (.string ⟨#[]⟩)).cell? ⟨g, 1, none⟩ = some v1 := by rw [cell_of_row _ _ 1 _ _ _ hb5]; rfl
        have z2 : (w4.setCell ⟨g, 0, none⟩ (.string ⟨#[]⟩)).cell? ⟨g, 2, none⟩ = some v2 := by rw [cell_of_row _ _ 2 _ _ _ hb5]; rfl
        have z3 : (w4.setCell ⟨g, 0, none⟩ (.string ⟨#[]⟩)).cell? ⟨g, 3, none⟩ = some (.slice (some ⟨g3, 0, none⟩) c.ins.length cap3) := by rw [cell_of_row _ _ 3 _ _ _ hb5]; rfl
        have RD : CodeRd (w4.setCell ⟨g, 0, none⟩ (.string ⟨#[]⟩)) { c with name := ⟨#[]⟩ } v1 v2 (.slice (some ⟨g3, 0, none⟩) c.ins.length cap3) :=
          ⟨(O1.out.set HBL.out (by decide) 0 _).rd encVar_len, (O2.out.set HBL.out (by decide) 0 _).rd oneU8_len, (O3.out.set HBL.out (by decide) 0 _).rd encIns_len⟩
        have hb5' := HB.out.setCell (p := ⟨g, 0, none⟩) (Nat.le_trans hle hg) (.string ⟨#[]⟩)
        have HB5 := Fact.mk hb5'
        clear hb5'
        go_wp2_with fail
        refine (right_any { c with name := ⟨#[]⟩ } ⟨hw.vars, hw.blocks, hw.ins⟩ (by show (c.ins.length : Int) < _; omega) _ _ _ _ RD).mono ?_
        rintro e w6 ⟨rfl, hb6⟩
        rw [odd7]
        have HB6 := Fact.mk (HB5.out.trans (hb6.mono HB5.out.size))
        clear hb6 RD y0 z0 z1 z2 z3 hb5 f0
        go_wp2_with fail
        refine (awake_any _).mono ?_
        rintro e w7 ⟨rfl, hb7⟩
        go_wp2_with fail
        go_ret
        exact ⟨rfl, HB6.out.trans (hb7.mono HB6.out.size)⟩
      case inr.inr.inr.inr.inr.inr.inl =>
        obtain ⟨i0, hi, hz0, hz1, hz2⟩ := oinfo42
        have y2 : w4.cell? ⟨g, 2, none⟩ = some v2 := by rw [cell_of_row _ _ 2 _ _ _ HBL.out]; rfl
        obtain ⟨a1, a2, a3⟩ := one_block w4 (.cells #[.int .u8 12] 42)
        go_wp2_with (at_builtin; refine wpList_pushR rfl _ _ 29 rfl w2.heap.size 42 i0 (.int .u8 0) 1 1 Try.underlying29 hi hz0 hz1 hz2 rfl (by decide) (by decide) oneU8 _ _ rfl O2.out 12 rfl rfl (by simp [oneU8]; rfl) (by omega) (by have := (Array.getElem?_eq_some_iff.1 HBL.out).1; omega) ?_)
        intro v5 w5 ho hrow
        obtain ⟨A5, n5, k5, rfl⟩ := ho.slice
        have hgr := hrow.grow O2.out
        have hbl5 := hgr.other HBL.out (by decide)
        have o1 : Own 41 4 encVar w5 w2.heap.size v1 c.vars := row_grow O1.out hgr (by decide)
        have o3 : Own 38 4 encIns w5 w2.heap.size (.slice (some ⟨g3, 0, none⟩) c.ins.length cap3) c.ins := row_grow O3.out hgr (by decide)
        have f2 := frozen_of_row w5 g 2 _ _ hbl5
        have x2 : w5.cell? ⟨g, 2, none⟩ = some v2 := by rw [cell_of_row _ _ 2 _ _ _ hbl5]; rfl
        have hb5 := set4_2 (u := .slice A5 n5 k5) hbl5
        have z0 : (w5.setCell ⟨g, 2, none⟩ (.slice A5 n5 k5)).cell? ⟨g, 0, none⟩ = some (.string c.name) := by rw [cell_of_row _ _ 0 _ _ _ hb5]; rfl
        have z1 : (w5.setCell ⟨g, 2, none⟩ (.slice A5 n5 k5)).cell? ⟨g, 1, none⟩ = some v1 := by rw [cell_of_row _ _ 1 _ _ _ hb5]; rfl
        have z2 : (w5.setCell ⟨g, 2, none⟩ (.slice A5 n5 k5)).cell? ⟨g, 2, none⟩ = some (.slice A5 n5 k5) := by rw [cell_of_row _ _ 2 _ _ _ hb5]; rfl
        have z3 : (w5.setCell ⟨g, 2, none⟩ (.slice A5 n5 k5)).cell? ⟨g, 3, none⟩ = some (.slice (some ⟨g3, 0, none⟩) c.ins.length cap3) := by rw [cell_of_row _ _ 3 _ _ _ hb5]; rfl
        have RD : CodeRd (w5.setCell ⟨g, 2, none⟩ (.slice A5 n5 k5)) { c with blocks := c.blocks ++ [12] } v1 (.slice A5 n5 k5) (.slice (some ⟨g3, 0, none⟩) c.ins.length cap3) :=
          ⟨(o1.set hbl5 (by decide) 2 _).rd encVar_len, (ho.set hbl5 (by decide) 2 _).rd oneU8_len, (o3.set hbl5 (by decide) 2 _).rd encIns_len⟩
        have hb4 : Below w2.heap.size w4 w5 := hgr.below (Below.refl _ _) (by have := (Array.getElem?_eq_some_iff.1 HBL.out).1; omega)
        have hb5' := (HB.out.trans (hb4.mono hle)).setCell (p := ⟨g, 2, none⟩) (Nat.le_trans hle hg) (.slice A5 n5 k5)
        have HB5 := Fact.mk hb5'
        clear hb5' y2 a1 a2 a3 ho hrow hgr hbl5 o1 o3 hb4
        go_wp2_with fail
        refine (right_any { c with blocks := c.blocks ++ [12] } ⟨hw.vars, (fun b hb => by
          rcases List.mem_append.1 hb with hb | hb
          · exact hw.blocks b hb
          · obtain rfl := List.mem_singleton.1 hb
            exact ⟨by decide, by decide⟩), hw.ins⟩ (by show (c.ins.length : Int) < _; omega) _ _ _ _ RD).mono ?_
        rintro e w6 ⟨rfl, hb6⟩
        rw [odd6]
        have HB6 := Fact.mk (HB5.out.trans (hb6.mono HB5.out.size))
        clear hb6 RD z0 z1 z2 z3 hb5 f2 x2
        go_wp2_with fail
        refine (awake_any _).mono ?_
        rintro e w7 ⟨rfl, hb7⟩
        go_wp2_with fail
        go_ret
        exact ⟨rfl, HB6.out.trans (hb7.mono HB6.out.size)⟩
      case inl =>
        obtain ⟨i0, hi, hz0, hz1, hz2⟩ := oinfo41
        have y1 : w4.cell? ⟨g, 1, none⟩ = some v1 := by rw [cell_of_row _ _ 1 _ _ _ HBL.out]; rfl
        obtain ⟨a1, a2, a3⟩ := one_block w4 (.cells #[.string ⟨#[118]⟩, .int .u8 3, .int .u8 2, .int .i64 128] 41)
        go_wp2_with (at_builtin; refine wpList_pushR rfl _ _ 28 rfl w2.heap.size 41 i0 (.agg #[.string ⟨#[]⟩, .int .u8 0, .int .u8 0, .int .i64 0]) 4 32 Try.underlying28 hi hz0 hz1 hz2 rfl (by decide) (by decide) encVar _ _ rfl O1.out ⟨⟨#[118]⟩, 3, 2, 128⟩ rfl rfl (encVar_one _) (by omega) (by have := (Array.getElem?_eq_some_iff.1 HBL.out).1; omega) ?_)
        intro v5 w5 ho hrow
        obtain ⟨A5, n5, k5, rfl⟩ := ho.slice
        have hgr := hrow.grow O1.out
        have hbl5 := hgr.other HBL.out (by decide)
        have o2 : Own 42 1 oneU8 w5 w2.heap.size v2 c.blocks := row_grow O2.out hgr (by decide)
        have o3 : Own 38 4 encIns w5 w2.heap.size (.slice (some ⟨g3, 0, none⟩) c.ins.length cap3) c.ins := row_grow O3.out hgr (by decide)
        have f2 := frozen_of_row w5 g 1 _ _ hbl5
        have x2 : w5.cell? ⟨g, 1, none⟩ = some v1 := by rw [cell_of_row _ _ 1 _ _ _ hbl5]; rfl
        have hb5 := set4_1 (u := .slice A5 n5 k5) hbl5
        have z0 : (w5.setCell ⟨g, 1, none⟩ (.slice A5 n5 k5)).cell? ⟨g, 0, none⟩ = some (.string c.name) := by rw [cell_of_row _ _ 0 _ _ _ hb5]; rfl
        have z1 : (w5.setCell ⟨g, 1, none⟩ (.slice A5 n5 k5)).cell? ⟨g, 1, none⟩ = some (.slice A5 n5 k5) := by rw [cell_of_row _ _ 1 _ _ _ hb5]; rfl
        have z2 : (w5.setCell ⟨g, 1, none⟩ (.slice A5 n5 k5)).cell? ⟨g, 2, none⟩ = some v2 := by rw [cell_of_row _ _ 2 _ _ _ hb5]; rfl
        have z3 : (w5.setCell ⟨g, 1, none⟩ (.slice A5 n5 k5)).cell? ⟨g, 3, none⟩ = some (.slice (some ⟨g3, 0, none⟩) c.ins.length cap3) := by rw [cell_of_row _ _ 3 _ _ _ hb5]; rfl
        have RD : CodeRd (w5.setCell ⟨g, 1, none⟩ (.slice A5 n5 k5)) { c with vars := c.vars ++ [⟨⟨#[118]⟩, 3, 2, 128⟩] } (.slice A5 n5 k5) v2 (.slice (some ⟨g3, 0, none⟩) c.ins.length cap3) :=
          ⟨(ho.set hbl5 (by decide) 1 _).rd encVar_len, (o2.set hbl5 (by decide) 1 _).rd oneU8_len, (o3.set hbl5 (by decide) 1 _).rd encIns_len⟩
        have hb4 : Below w2.heap.size w4 w5 := hgr.below (Below.refl _ _) (by have := (Array.getElem?_eq_some_iff.1 HBL.out).1; omega)
        have hb5' := (HB.out.trans (hb4.mono hle)).setCell (p := ⟨g, 1, none⟩) (Nat.le_trans hle hg) (.slice A5 n5 k5)
        have HB5 := Fact.mk hb5'
        clear hb5' y1 a1 a2 a3 ho hrow hgr hbl5 o2 o3 hb4
        go_wp2_with fail
        refine (right_any { c with vars := c.vars ++ [⟨⟨#[118]⟩, 3, 2, 128⟩] } ⟨(fun b hb => by
          rcases List.mem_append.1 hb with hb | hb
          · exact hw.vars b hb
          · obtain rfl := List.mem_singleton.1 hb
            exact ⟨by simp, by simp, by simp⟩), hw.blocks, hw.ins⟩ (by show (c.ins.length : Int) < _; omega) _ _ _ _ RD).mono ?_
        rintro e w6 ⟨rfl, hb6⟩
        rw [odd0]
        have HB6 := Fact.mk (HB5.out.trans (hb6.mono HB5.out.size))
        clear hb6 RD z0 z1 z2 z3 hb5 f2 x2
        go_wp2_with fail
        refine (awake_any _).mono ?_
        rintro e w7 ⟨rfl, hb7⟩
        go_wp2_with fail
        go_ret
        exact ⟨rfl, HB6.out.trans (hb7.mono HB6.out.size)⟩
      case inr.inl =>
        obtain ⟨i0, hi, hz0, hz1, hz2⟩ := oinfo41
        have y1 : w4.cell? ⟨g, 1, none⟩ = some v1 := by rw [cell_of_row _ _ 1 _ _ _ HBL.out]; rfl
        obtain ⟨a1, a2, a3⟩ := one_block w4 (.cells #[.string ⟨#[118]⟩, .int .u8 3, .int .u8 1, .int .i64 0, .string ⟨#[118]⟩, .int .u8 2, .int .u8 4, .int .i64 0] 41)
        go_wp2_with (at_builtin; refine wpList_append_rd rfl _ _ 28 rfl w2.heap.size 41 i0 (.agg #[.string ⟨#[]⟩, .int .u8 0, .int .u8 0, .int .i64 0]) 4 32 Try.underlying28 hi hz0 hz1 hz2 rfl (by decide) (by decide) encVar encVar_len encVar_one _ _ rfl (O1.out.below a1) _ [⟨⟨#[118]⟩, 3, 1, 0⟩, ⟨⟨#[118]⟩, 2, 4, 0⟩] rfl (rd_new encVar 4 encVar_len w4 [⟨⟨#[118]⟩, 3, 1, 0⟩, ⟨⟨#[118]⟩, 2, 4, 0⟩] 41 (by simp)) (by simp; omega) (by have := (Array.getElem?_eq_some_iff.1 HBL.out).1; rw [a3]; omega) ?_)
        intro v5 w5 ho hrow0
        have hrow := hrow0.alloc
        clear hrow0
        obtain ⟨A5, n5, k5, rfl⟩ := ho.slice
        have hgr := hrow.grow O1.out
        have hbl5 := hgr.other HBL.out (by decide)
        have o2 : Own 42 1 oneU8 w5 w2.heap.size v2 c.blocks := row_grow O2.out hgr (by decide)
        have o3 : Own 38 4 encIns w5 w2.heap.size (.slice (some ⟨g3, 0, none⟩) c.ins.length cap3) c.ins := row_grow O3.out hgr (by decide)
        have f2 := frozen_of_row w5 g 1 _ _ hbl5
        have x2 : w5.cell? ⟨g, 1, none⟩ = some v1 := by rw [cell_of_row _ _ 1 _ _ _ hbl5]; rfl
        have hb5 := set4_1 (u := .slice A5 n5 k5) hbl5
        have z0 : (w5.setCell ⟨g, 1, none⟩ (.slice A5 n5 k5)).cell? ⟨g, 0, none⟩ = some (.string c.name) := by rw [cell_of_row _ _ 0 _ _ _ hb5]; rfl
        have z1 : (w5.setCell ⟨g, 1, none⟩ (.slice A5 n5 k5)).cell? ⟨g, 1, none⟩ = some (.slice A5 n5 k5) := by rw [cell_of_row _ _ 1 _ _ _ hb5]; rfl
        have z2 : (w5.setCell ⟨g, 1, none⟩ (.slice A5 n5 k5)).cell? ⟨g, 2, none⟩ = some v2 := by rw [cell_of_row _ _ 2 _ _ _ hb5]; rfl
        have z3 : (w5.setCell ⟨g, 1, none⟩ (.slice A5 n5 k5)).cell? ⟨g, 3, none⟩ = some (.slice (some ⟨g3, 0, none⟩) c.ins.length cap3) := by rw [cell_of_row _ _ 3 _ _ _ hb5]; rfl
        have RD : CodeRd (w5.setCell ⟨g, 1, none⟩ (.slice A5 n5 k5)) { c with vars := c.vars ++ [⟨⟨#[118]⟩, 3, 1, 0⟩, ⟨⟨#[118]⟩, 2, 4, 0⟩] } (.slice A5 n5 k5) v2 (.slice (some ⟨g3, 0, none⟩) c.ins.length cap3) :=
          ⟨(ho.set hbl5 (by decide) 1 _).rd encVar_len, (o2.set hbl5 (by decide) 1 _).rd oneU8_len, (o3.set hbl5 (by decide) 1 _).rd encIns_len⟩
        have hb4 : Below w2.heap.size w4 w5 := hgr.below (Below.refl _ _) (by have := (Array.getElem?_eq_some_iff.1 HBL.out).1; omega)
        have hb5' := (HB.out.trans (hb4.mono hle)).setCell (p := ⟨g, 1, none⟩) (Nat.le_trans hle hg) (.slice A5 n5 k5)
        have HB5 := Fact.mk hb5'
        clear hb5' y1 a1 a2 a3 ho hrow hgr hbl5 o2 o3 hb4
        go_wp2_with fail
        refine (right_any { c with vars := c.vars ++ [⟨⟨#[118]⟩, 3, 1, 0⟩, ⟨⟨#[118]⟩, 2, 4, 0⟩] } ⟨(fun b hb => by
          rcases List.mem_append.1 hb with hb | hb
          · exact hw.vars b hb
          · simp only [List.mem_cons, List.not_mem_nil, or_false] at hb
            rcases hb with rfl | rfl <;> exact ⟨by simp, by simp, by simp⟩), hw.blocks, hw.ins⟩ (by show (c.ins.length : Int) < _; omega) _ _ _ _ RD).mono ?_
        rintro e w6 ⟨rfl, hb6⟩
        rw [odd1]
        have HB6 := Fact.mk (HB5.out.trans (hb6.mono HB5.out.size))
        clear hb6 RD z0 z1 z2 z3 hb5 f2 x2
        go_wp2_with fail
        refine (awake_any _).mono ?_
        rintro e w7 ⟨rfl, hb7⟩
        go_wp2_with fail
        go_ret
        exact ⟨rfl, HB6.out.trans (hb7.mono HB6.out.size)⟩
      case inr.inr.inl =>
        have f3 := frozen_of_row w4 g3 (kk * 4 + 2) _ _ HH3.out
        have x3 : w4.cell? ⟨g3, kk * 4 + 2, none⟩ = some (.int .i64 c.ins[kk].a) := by
          obtain ⟨_, _, _, e, _, _, q⟩ := O3.out.rd encIns_len
          obtain ⟨b, o, e2, q⟩ := q (by omega)
          cases e
          cases e2
          have := q kk hk 2 _ rfl
          rwa [show 0 + kk * 4 + 2 = kk * 4 + 2 from by omega] at this
        have hne : g ≠ g3 := by
          intro e
          have h1 := HBL.out
          rw [e, HH3.out] at h1
          injection h1 with h1
          injection h1 with _ h2 _
          exact absurd h2 (by decide)
        have ho3 : Own 38 4 encIns (w4.setCell ⟨g3, kk * 4 + 2, none⟩ (.int .i64 5000)) w2.heap.size (.slice (some ⟨g3, 0, none⟩) c.ins.length cap3) (c.ins.set kk { c.ins[kk] with a := 5000 }) := Own.store encIns_len O3.out kk hk 2 (by decide) { c.ins[kk] with a := 5000 } (.int .i64 5000) rfl
        have hb5 : (w4.setCell ⟨g3, kk * 4 + 2, none⟩ (.int .i64 5000)).heap[g]? = some (.cells #[.string c.name, v1, v2, .slice (some ⟨g3, 0, none⟩) c.ins.length cap3] 32 (0, 0)) := by rw [Below.heap_setCell _ _ _ _ hne]; exact HBL.out
        have z0 : (w4.setCell ⟨g3, kk * 4 + 2, none⟩ (.int .i64 5000)).cell? ⟨g, 0, none⟩ = some (.string c.name) := by rw [cell_of_row _ _ 0 _ _ _ hb5]; rfl
        have z1 : (w4.setCell ⟨g3, kk * 4 + 2, none⟩ (.int .i64 5000)).cell? ⟨g, 1, none⟩ = some v1 := by rw [cell_of_row _ _ 1 _ _ _ hb5]; rfl
        have z2 : (w4.setCell ⟨g3, kk * 4 + 2, none⟩ (.int .i64 5000)).cell? ⟨g, 2, none⟩ = some v2 := by rw [cell_of_row _ _ 2 _ _ _ hb5]; rfl
        have z3 : (w4.setCell ⟨g3, kk * 4 + 2, none⟩ (.int .i64 5000)).cell? ⟨g, 3, none⟩ = some (.slice (some ⟨g3, 0, none⟩) c.ins.length cap3) := by rw [cell_of_row _ _ 3 _ _ _ hb5]; rfl
        have RD : CodeRd (w4.setCell ⟨g3, kk * 4 + 2, none⟩ (.int .i64 5000)) { c with ins := c.ins.set kk { c.ins[kk] with a := 5000 } } v1 v2 (.slice (some ⟨g3, 0, none⟩) c.ins.length cap3) :=
          ⟨(O1.out.set HH3.out (by decide) _ _).rd encVar_len, (O2.out.set HH3.out (by decide) _ _).rd oneU8_len, by simpa using ho3.rd encIns_len⟩
        have HB5 := Fact.mk (HB.out.setCell (p := ⟨g3, kk * 4 + 2, none⟩) (Nat.le_trans hle hg3) (.int .i64 5000))
        go_wp2_with fail
        refine (right_any { c with ins := c.ins.set kk { c.ins[kk] with a := 5000 } } ⟨hw.vars, hw.blocks, (fun b hb => by
          rcases List.mem_or_eq_of_mem_set hb with hb | rfl
          · exact hw.ins b hb
          · have := hw.ins _ (List.getElem_mem hk)
            exact ⟨by first | exact this.op | (simp; done), by first | exact this.t | (simp; done), by first | exact this.a | (simp; done), by first | exact this.n | (simp; done)⟩)⟩ (by show ((c.ins.set kk _).length : Int) < _; rw [List.length_set]; omega) _ _ _ _ RD).mono ?_
        rintro e w6 ⟨rfl, hb6⟩
        rw [odd2 kk hk]
        have HB6 := Fact.mk (HB5.out.trans (hb6.mono HB5.out.size))
        clear hb6 RD z0 z1 z2 z3 hb5 f3 x3 ho3
        go_wp2_with fail
        refine (awake_any _).mono ?_
        rintro e w7 ⟨rfl, hb7⟩
        go_wp2_with fail
        go_ret
        exact ⟨rfl, HB6.out.trans (hb7.mono HB6.out.size)⟩
      case inr.inr.inr.inl =>
        have f3 := frozen_of_row w4 g3 (kk * 4 + 1) _ _ HH3.out
        have x3 : w4.cell? ⟨g3, kk * 4 + 1, none⟩ = some (.int .u8 c.ins[kk].t) := by
          obtain ⟨_, _, _, e, _, _, q⟩ := O3.out.rd encIns_len
          obtain ⟨b, o, e2, q⟩ := q (by omega)
          cases e
          cases e2
          have := q kk hk 1 _ rfl
          rwa [show 0 + kk * 4 + 1 = kk * 4 + 1 from by omega] at this
        have hne : g ≠ g3 := by
          intro e
          have h1 := HBL.out
          rw [e, HH3.out] at h1
          injection h1 with h1
          injection h1 with _ h2 _
          exact absurd h2 (by decide)
        have ho3 : Own 38 4 encIns (w4.setCell ⟨g3, kk * 4 + 1, none⟩ (.int .u8 6)) w2.heap.size (.slice (some ⟨g3, 0, none⟩) c.ins.length cap3) (c.ins.set kk { c.ins[kk] with t := 6 }) := Own.store encIns_len O3.out kk hk 1 (by decide) { c.ins[kk] with t := 6 } (.int .u8 6) rfl
        have hb5 : (w4.setCell ⟨g3, kk * 4 + 1, none⟩ (.int .u8 6)).heap[g]? = some (.cells #[.string c.name, v1, v2, .slice (some ⟨g3, 0, none⟩) c.ins.length cap3] 32 (0, 0)) := by rw [Below.heap_setCell _ _ _ _ hne]; exact HBL.out
        have z0 : (w4.setCell ⟨g3, kk * 4 + 1, none⟩ (.int .u8 6)).cell? ⟨g, 0, none⟩ = some (.string c.name) := by rw [cell_of_row _ _ 0 _ _ _ hb5]; rfl
        have z1 : (w4.setCell ⟨g3, kk * 4 + 1, none⟩ (.int .u8 6)).cell? ⟨g, 1, none⟩ = some v1 := by rw [cell_of_row _ _ 1 _ _ _ hb5]; rfl
        have z2 : (w4.setCell ⟨g3, kk * 4 + 1, none⟩ (.int .u8 6)).cell? ⟨g, 2, none⟩ = some v2 := by rw [cell_of_row _ _ 2 _ _ _ hb5]; rfl
        have z3 : (w4.setCell ⟨g3, kk * 4 + 1, none⟩ (.int .u8 6)).cell? ⟨g, 3, none⟩ = some (.slice (some ⟨g3, 0, none⟩) c.ins.length cap3) := by rw [cell_of_row _ _ 3 _ _ _ hb5]; rfl
        have RD : CodeRd (w4.setCell ⟨g3, kk * 4 + 1, none⟩ (.int .u8 6)) { c with ins := c.ins.set kk { c.ins[kk] with t := 6 } } v1 v2 (.slice (some ⟨g3, 0, none⟩) c.ins.length cap3) :=
          ⟨(O1.out.set HH3.out (by decide) _ _).rd encVar_len, (O2.out.set HH3.out (by decide) _ _).rd oneU8_len, by simpa using ho3.rd encIns_len⟩
        have HB5 := Fact.mk (HB.out.setCell (p := ⟨g3, kk * 4 + 1, none⟩) (Nat.le_trans hle hg3) (.int .u8 6))
        go_wp2_with fail
        refine (right_any { c with ins := c.ins.set kk { c.ins[kk] with t := 6 } } ⟨hw.vars, hw.blocks, (fun b hb => by
          rcases List.mem_or_eq_of_mem_set hb with hb | rfl
          · exact hw.ins b hb
          · have := hw.ins _ (List.getElem_mem hk)
            exact ⟨by first | exact this.op | (simp; done), by first | exact this.t | (simp; done), by first | exact this.a | (simp; done), by first | exact this.n | (simp; done)⟩)⟩ (by show ((c.ins.set kk _).length : Int) < _; rw [List.length_set]; omega) _ _ _ _ RD).mono ?_
        rintro e w6 ⟨rfl, hb6⟩
        rw [odd3 kk hk]
        have HB6 := Fact.mk (HB5.out.trans (hb6.mono HB5.out.size))
        clear hb6 RD z0 z1 z2 z3 hb5 f3 x3 ho3
        go_wp2_with fail
        refine (awake_any _).mono ?_
        rintro e w7 ⟨rfl, hb7⟩
        go_wp2_with fail
        go_ret
        exact ⟨rfl, HB6.out.trans (hb7.mono HB6.out.size)⟩
      case inr.inr.inr.inr.inl =>
        have f3 := frozen_of_row w4 g3 (kk * 4 + 3) _ _ HH3.out
        have x3 : w4.cell? ⟨g3, kk * 4 + 3, none⟩ = some (.int .i64 c.ins[kk].n) := by
          obtain ⟨_, _, _, e, _, _, q⟩ := O3.out.rd encIns_len
          obtain ⟨b, o, e2, q⟩ := q (by omega)
          cases e
          cases e2
          have := q kk hk 3 _ rfl
          rwa [show 0 + kk * 4 + 3 = kk * 4 + 3 from by omega] at this
        have hne : g ≠ g3 := by
          intro e
          have h1 := HBL.out
          rw [e, HH3.out] at h1
          injection h1 with h1
          injection h1 with _ h2 _
          exact absurd h2 (by decide)
        have ho3 : Own 38 4 encIns (w4.setCell ⟨g3, kk * 4 + 3, none⟩ (.int .i64 8589934592)) w2.heap.size (.slice (some ⟨g3, 0, none⟩) c.ins.length cap3) (c.ins.set kk { c.ins[kk] with n := 8589934592 }) := Own.store encIns_len O3.out kk hk 3 (by decide) { c.ins[kk] with n := 8589934592 } (.int .i64 8589934592) rfl
        have hb5 : (w4.setCell ⟨g3, kk * 4 + 3, none⟩ (.int .i64 8589934592)).heap[g]? = some (.cells #[.string c.name, v1, v2, .slice (some ⟨g3, 0, none⟩) c.ins.length cap3] 32 (0, 0)) := by rw [Below.heap_setCell _ _ _ _ hne]; exact HBL.out
        have z0 : (w4.setCell ⟨g3, kk * 4 + 3, none⟩ (.int .i64 8589934592)).cell? ⟨g, 0, none⟩ = some (.string c.name) := by rw [cell_of_row _ _ 0 _ _ _ hb5]; rfl
        have z1 : (w4.setCell ⟨g3, kk * 4 + 3, none⟩ (.int .i64 8589934592)).cell? ⟨g, 1, none⟩ = some v1 := by rw [cell_of_row _ _ 1 _ _ _ hb5]; rfl
        have z2 : (w4.setCell ⟨g3, kk * 4 + 3, none⟩ (.int .i64 8589934592)).cell? ⟨g, 2, none⟩ = some v2 := by rw [cell_of_row _ _ 2 _ _ _ hb5]; rfl
        have z3 : (w4.setCell ⟨g3, kk * 4 + 3, none⟩ (.int .i64 8589934592)).cell? ⟨g, 3, none⟩ = some (.slice (some ⟨g3, 0, none⟩) c.ins.length cap3) := by rw [cell_of_row _ _ 3 _ _ _ hb5]; rfl
        have RD : CodeRd (w4.setCell ⟨g3, kk * 4 + 3, none⟩ (.int .i64 8589934592)) { c with ins := c.ins.set kk { c.ins[kk] with n := 8589934592 } } v1 v2 (.slice (some ⟨g3, 0, none⟩) c.ins.length cap3) :=
          ⟨(O1.out.set HH3.out (by decide) _ _).rd encVar_len, (O2.out.set HH3.out (by decide) _ _).rd oneU8_len, by simpa using ho3.rd encIns_len⟩
        have HB5 := Fact.mk (HB.out.setCell (p := ⟨g3, kk * 4 + 3, none⟩) (Nat.le_trans hle hg3) (.int .i64 8589934592))
        go_wp2_with fail
        refine (right_any { c with ins := c.ins.set kk { c.ins[kk] with n := 8589934592 } } ⟨hw.vars, hw.blocks, (fun b hb => by
          rcases List.mem_or_eq_of_mem_set hb with hb | rfl
          · exact hw.ins b hb
          · have := hw.ins _ (List.getElem_mem hk)
            exact ⟨by first | exact this.op | (simp; done), by first | exact this.t | (simp; done), by first | exact this.a | (simp; done), by first | exact this.n | (simp; done)⟩)⟩ (by show ((c.ins.set kk _).length : Int) < _; rw [List.length_set]; omega) _ _ _ _ RD).mono ?_
        rintro e w6 ⟨rfl, hb6⟩
        rw [odd4 kk hk]
        have HB6 := Fact.mk (HB5.out.trans (hb6.mono HB5.out.size))
        clear hb6 RD z0 z1 z2 z3 hb5 f3 x3 ho3
        go_wp2_with fail
        refine (awake_any _).mono ?_
        rintro e w7 ⟨rfl, hb7⟩
        go_wp2_with fail
        go_ret
        exact ⟨rfl, HB6.out.trans (hb7.mono HB6.out.size)⟩
      case inr.inr.inr.inr.inr.inl =>
        have f3 := frozen_of_row w4 g3 (kk * 4) _ _ HH3.out
        have x3 : w4.cell? ⟨g3, kk * 4, none⟩ = some (.int .u8 c.ins[kk].op) := by
          obtain ⟨_, _, _, e, _, _, q⟩ := O3.out.rd encIns_len
          obtain ⟨b, o, e2, q⟩ := q (by omega)
          cases e
          cases e2
          have := q kk hk 0 _ rfl
          rwa [show 0 + kk * 4 + 0 = kk * 4 from by omega] at this
        have hne : g ≠ g3 := by
          intro e
          have h1 := HBL.out
          rw [e, HH3.out] at h1
          injection h1 with h1
          injection h1 with _ h2 _
          exact absurd h2 (by decide)
        have ho3 : Own 38 4 encIns (w4.setCell ⟨g3, kk * 4, none⟩ (.int .u8 23)) w2.heap.size (.slice (some ⟨g3, 0, none⟩) c.ins.length cap3) (c.ins.set kk { c.ins[kk] with op := 23 }) := Own.store encIns_len O3.out kk hk 0 (by decide) { c.ins[kk] with op := 23 } (.int .u8 23) rfl
        have hb5 : (w4.setCell ⟨g3, kk * 4, none⟩ (.int .u8 23)).heap[g]? = some (.cells #[.string c.name, v1, v2, .slice (some ⟨g3, 0, none⟩) c.ins.length cap3] 32 (0, 0)) := by rw [Below.heap_setCell _ _ _ _ hne]; exact HBL.out
        have z0 : (w4.setCell ⟨g3, kk * 4, none⟩ (.int .u8 23)).cell? ⟨g, 0, none⟩ = some (.string c.name) := by rw [cell_of_row _ _ 0 _ _ _ hb5]; rfl
        have z1 : (w4.setCell ⟨g3, kk * 4, none⟩ (.int .u8 23)).cell? ⟨g, 1, none⟩ = some v1 := by rw [cell_of_row _ _ 1 _ _ _ hb5]; rfl
        have z2 : (w4.setCell ⟨g3, kk * 4, none⟩ (.int .u8 23)).cell? ⟨g, 2, none⟩ = some v2 := by rw [cell_of_row _ _ 2 _ _ _ hb5]; rfl
        have z3 : (w4.setCell ⟨g3, kk * 4, none⟩ (.int .u8 23)).cell? ⟨g, 3, none⟩ = some (.slice (some ⟨g3, 0, none⟩) c.ins.length cap3) := by rw [cell_of_row _ _ 3 _ _ _ hb5]; rfl
        have RD : CodeRd (w4.setCell ⟨g3, kk * 4, none⟩ (.int .u8 23)) { c with ins := c.ins.set kk { c.ins[kk] with op := 23 } } v1 v2 (.slice (some ⟨g3, 0, none⟩) c.ins.length cap3) :=
          ⟨(O1.out.set HH3.out (by decide) _ _).rd encVar_len, (O2.out.set HH3.out (by decide) _ _).rd oneU8_len, by simpa using ho3.rd encIns_len⟩
        have HB5 := Fact.mk (HB.out.setCell (p := ⟨g3, kk * 4, none⟩) (Nat.le_trans hle hg3) (.int .u8 23))
        go_wp2_with fail
        refine (right_any { c with ins := c.ins.set kk { c.ins[kk] with op := 23 } } ⟨hw.vars, hw.blocks, (fun b hb => by
          rcases List.mem_or_eq_of_mem_set hb with hb | rfl
          · exact hw.ins b hb
          · have := hw.ins _ (List.getElem_mem hk)
            exact ⟨by first | exact this.op | (simp; done), by first | exact this.t | (simp; done), by first | exact this.a | (simp; done), by first | exact this.n | (simp; done)⟩)⟩ (by show ((c.ins.set kk _).length : Int) < _; rw [List.length_set]; omega) _ _ _ _ RD).mono ?_
        rintro e w6 ⟨rfl, hb6⟩
        rw [odd5 kk hk]
        have HB6 := Fact.mk (HB5.out.trans (hb6.mono HB5.out.size))
        clear hb6 RD z0 z1 z2 z3 hb5 f3 x3 ho3
        go_wp2_with fail
        refine (awake_any _).mono ?_
        rintro e w7 ⟨rfl, hb7⟩
        go_wp2_with fail
        go_ret
        exact ⟨rfl, HB6.out.trans (hb7.mono HB6.out.size)⟩
    · rw [Bool.not_eq_true] at hr
      rw [hr]
      have HB2 := Fact.mk (HB1.out.trans (hb2.mono HB1.out.size))
      clear hb2
      go_wp2_with fail
      refine (awake_any _).mono ?_
      rintro e w3 ⟨rfl, hb3⟩
      go_wp2_with fail
      go_ret
      exact ⟨rfl, HB2.out.trans (hb3.mono HB2.out.size)⟩
end Go.Proofs.Ythiapebodpkamaa
