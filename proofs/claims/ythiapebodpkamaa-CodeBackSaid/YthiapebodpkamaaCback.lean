/- CodeBack: the walk. -/
import Derived.Test.YthiapebodpkamaaCbk
namespace Go.Proofs.Ythiapebodpkamaa
open Go.RowKit
set_option maxHeartbeats 8000000 in
set_option maxRecDepth 100000 in
theorem back13_any (c : GCode) (hw : c.Wf) (vs bs is vl : Value) (l : List Int) (w : World) (h : CodeRd w c vs bs is) (hv : Rd oneU8 1 w vl l) (hby : Bys l) (hnm : c.name.size ≤ 9223372036854775807) (hnms : ∀ x ∈ c.vars, x.name.size ≤ 9223372036854775807) :
    Calls Try.prog 12 #[.agg #[.string c.name, vs, bs, is], vl] w fun e w' => e = .returned (.bool true) ∧ Below w.heap.size w w' := by
  obtain ⟨A1, c1, rfl⟩ : ∃ A c', vs = .slice A c.vars.length c' := by obtain ⟨_, A, c', h, _⟩ := h.vars; exact ⟨A, c', h⟩
  obtain ⟨A2, c2, rfl⟩ : ∃ A c', bs = .slice A c.blocks.length c' := by obtain ⟨_, A, c', h, _⟩ := h.blocks; exact ⟨A, c', h⟩
  obtain ⟨A3, c3, rfl⟩ : ∃ A c', is = .slice A c.ins.length c' := by obtain ⟨_, A, c', h, _⟩ := h.ins; exact ⟨A, c', h⟩
  obtain ⟨AL, q, cL, rfl, hq⟩ : ∃ A q c', vl = .slice A q c' ∧ l.length = q := by obtain ⟨_, A, c', h, _⟩ := hv; exact ⟨A, _, c', h, rfl⟩
  have BEL : Fact (Below w.heap.size w (bx13 w c A1 A2 A3 c1 c2 c3)) := ⟨(one_block w _).1⟩
  have H := Fact.mk (h.below BEL.out)
  have HV := Fact.mk (hv.below BEL.out)
  have GR := Fact.mk (great_any c _ _ _ _ H.out hnm hnms)
  have HW := Fact.mk hw
  have HBY := Fact.mk hby
  have HQ := Fact.mk hq
  have hq9 : q ≤ 9223372036854775807 := by rw [← hq]; exact hv.1
  clear h hw hnm hnms hv hby hq
  go_enter Try.func12, Try.ntmps12
  go_wp2_with fail
  refine GR.out.mono ?_
  rintro e W0 ⟨g, rfl, hg, hb0⟩
  have BB := Fact.mk hb0
  clear hb0 GR
  cases g with
  | true =>
    clear hg
    go_wp2_with fail
    refine (awake_any _).mono ?_
    rintro e W9 ⟨rfl, hb9⟩
    have B9 := Fact.mk (BB.out.trans (hb9.mono BB.out.size))
    clear hb9
    go_wp2
    go_ret
    exact ⟨rfl, BEL.out.trans (B9.out.mono BEL.out.size)⟩
  | false =>
    obtain ⟨-, -, g3, -⟩ := hg rfl
    have hn9 : (c.ins.length : Int) < 9223372036854775807 := by omega
    clear hg
    by_cases hl : 30000 < q
    · have e1 : decide ((30000 : Int) < (q : Int)) = true := decide_eq_true (by omega)
      clear hl
      go_wp2_with fail
      refine (awake_any _).mono ?_
      rintro e W9 ⟨rfl, hb9⟩
      have B9 := Fact.mk (BB.out.trans (hb9.mono BB.out.size))
      clear hb9
      go_wp2
      go_ret
      exact ⟨rfl, BEL.out.trans (B9.out.mono BEL.out.size)⟩
    · have e1 : decide ((30000 : Int) < (q : Int)) = false := decide_eq_false (by omega)
      obtain ⟨k0, k1, k2, k3⟩ := bx_cells BB.out
      have RT := Fact.mk (fun (W : World) (hW : Below (bx13 w c A1 A2 A3 c1 c2 c3).heap.size (bx13 w c A1 A2 A3 c1 c2 c3) W) => right_any c HW.out hn9 _ _ _ W (H.out.below hW))
      cases hR : rightB c with
      | true =>
        have BY := Fact.mk (bytes_any c HW.out hn9 _ _ _ W0 (H.out.below BB.out) hR)
        rw [hR] at RT
        have HR := Fact.mk hR
        clear hR hl
        go_wp2_with fail
        refine BY.out.mono ?_
        rintro e W1 ⟨x, rfl, hx, hb1⟩
        have B1 := Fact.mk (BB.out.trans (hb1.mono BB.out.size))
        have RX := Fact.mk (hx.rd oneU8_len)
        obtain ⟨X1, x1, rfl⟩ := hx.slice2
        clear hb1 hx BY k0 k1 k2 k3
        obtain ⟨k0, k1, k2, k3⟩ := bx_cells B1.out
        obtain ⟨n, hn⟩ : ∃ n, (codeB c).length = n := ⟨_, rfl⟩
        rw [hn]
        rw [hn] at RX
        clear hn e1
        go_wp2_with fail
        refine (RT.out _ B1.out).mono ?_
        rintro e W2 ⟨rfl, hb2⟩
        have B2 := Fact.mk (B1.out.trans (hb2.mono B1.out.size))
        have RX2 := Fact.mk (RX.out.below hb2)
        clear hb2 k0 k1 k2 k3 RX
        go_wp2_with fail
        refine (read_any W2 _ (codeB c) RX2.out code_bys).mono ?_
        rintro e W3 ⟨hb3, hp⟩
        rw [read_mk HR.out HW.out] at hp
        obtain ⟨vs2, bs2, is2, rfl, hrd⟩ := hp
        have B3 := Fact.mk (B2.out.trans (hb3.mono B2.out.size))
        have RC := Fact.mk hrd
        obtain ⟨G1, g1, rfl⟩ : ∃ A c', vs2 = .slice A c.vars.length c' := by obtain ⟨_, A, c', h, _⟩ := hrd.vars; exact ⟨A, c', h⟩
        obtain ⟨G2, g2, rfl⟩ : ∃ A c', bs2 = .slice A c.blocks.length c' := by obtain ⟨_, A, c', h, _⟩ := hrd.blocks; exact ⟨A, c', h⟩
        obtain ⟨G3, g3', rfl⟩ : ∃ A c', is2 = .slice A c.ins.length c' := by obtain ⟨_, A, c', h, _⟩ := hrd.ins; exact ⟨A, c', h⟩
        clear hb3 hrd RT
        obtain ⟨k0, k1, k2, k3⟩ := bx_cells B3.out
        have lw3 : w.heap.size < W3.heap.size := by have := B3.out.size; simp at this; omega
        go_wp2_with fail
        refine (sameC_any c c _ _ _ _ _ _ _ (H.out.below (B3.out.trans ((one_block W3 _).1.mono B3.out.size))) (RC.out.below (one_block W3 _).1) true (by simp)).mono ?_
        rintro e W4 ⟨rfl, hb4⟩
        have B4 := Fact.mk ((B3.out.alloc B3.out.size _).trans (hb4.mono (Nat.le_trans B3.out.size (by simp))))
        clear hb4 k0 k1 k2 k3 RC
        have RV := Fact.mk (HV.out.below B4.out)
        go_wp2_with fail
        refine (read_any W4 _ l RV.out HBY.out).mono ?_
        rintro e V1 ⟨hb1, hp⟩
        have C1 := Fact.mk (B4.out.trans (hb1.mono B4.out.size))
        cases hd : readB l with
        | none =>
          rw [hd] at hp
          obtain rfl := hp
          clear hb1 hd RV
          go_wp2_with fail
          refine (awake_any _).mono ?_
          rintro e W9 ⟨rfl, hb9⟩
          have B9 := Fact.mk ((C1.out.alloc C1.out.size _).trans (hb9.mono (Nat.le_trans C1.out.size (by simp))))
          clear hb9
          go_wp2
          go_ret
          exact ⟨rfl, BEL.out.trans (B9.out.mono BEL.out.size)⟩
        | some d =>
          rw [hd] at hp
          obtain ⟨vs', bs', is', rfl, hrd⟩ := hp
          obtain ⟨dr, dok, dl⟩ := read_of HBY.out hd
          have dwf := Fact.mk (ok_wf dok)
          have hdn : Fact ((d.ins.length : Int) < 9223372036854775807) := ⟨by have := dok.ni; omega⟩
          have HRD := Fact.mk hrd
          have DR := Fact.mk dr
          have DL := Fact.mk dl
          obtain ⟨E1, e1, rfl⟩ : ∃ A c', vs' = .slice A d.vars.length c' := by obtain ⟨_, A, c', h, _⟩ := hrd.vars; exact ⟨A, c', h⟩
          obtain ⟨E2, e2, rfl⟩ : ∃ A c', bs' = .slice A d.blocks.length c' := by obtain ⟨_, A, c', h, _⟩ := hrd.blocks; exact ⟨A, c', h⟩
          obtain ⟨E3, e3, rfl⟩ : ∃ A c', is' = .slice A d.ins.length c' := by obtain ⟨_, A, c', h, _⟩ := hrd.ins; exact ⟨A, c', h⟩
          clear hb1 hd hrd dr dok dl RV
          go_wp2_with fail
          refine (bytes_any d dwf.out hdn.out _ _ _ _ (HRD.out.below (one_block V1 _).1) DR.out).mono ?_
          rintro e V2 ⟨y, rfl, hy, hb2⟩
          have D2 := Fact.mk hb2
          have C2 := Fact.mk ((C1.out.alloc C1.out.size _).trans (hb2.mono (Nat.le_trans C1.out.size (by simp))))
          have RY := Fact.mk (hy.rd oneU8_len)
          obtain ⟨F1, f1, rfl⟩ := hy.slice2
          have s1 := str_back RY.out
          have s2 := str_back (HV.out.below C2.out)
          rw [DL.out] at s2
          obtain ⟨d0, d1, d2, d3⟩ := sc_row4 ((D2.out.block V1.heap.size (by simp)).trans (heap_alloc_new V1 _))
          generalize strOfNums (codeB d) = S at s1 s2
          clear hy hb2
          go_wp2_with fail
          refine (right_any d dwf.out hdn.out _ _ _ _ (HRD.out.below ((one_block V1 _).1.trans (D2.out.mono (one_block V1 _).1.size)))).mono ?_
          rintro e V3 ⟨rfl, hb3⟩
          rw [DR.out]
          have C3 := Fact.mk (C2.out.trans (hb3.mono C2.out.size))
          clear hb3 s1 s2 d0 d1 d2 d3
          go_wp2_with fail
          refine (awake_any _).mono ?_
          rintro e W9 ⟨rfl, hb9⟩
          have B9 := Fact.mk (C3.out.trans (hb9.mono C3.out.size))
          clear hb9
          go_wp2
          go_ret
          exact ⟨rfl, BEL.out.trans (B9.out.mono BEL.out.size)⟩
      | false =>
        have BY := Fact.mk (bytes_no c HW.out hn9 _ _ _ W0 (H.out.below BB.out) hR)
        rw [hR] at RT
        clear hR hl
        go_wp2_with fail
        refine BY.out.mono ?_
        rintro e W1 ⟨rfl, hb1⟩
        have B1 := Fact.mk (BB.out.trans (hb1.mono BB.out.size))
        clear hb1 BY k0 k1 k2 k3
        obtain ⟨k0, k1, k2, k3⟩ := bx_cells B1.out
        clear e1
        go_wp2_with fail
        refine (RT.out _ B1.out).mono ?_
        rintro e W2 ⟨rfl, hb2⟩
        have B2 := Fact.mk (B1.out.trans (hb2.mono B1.out.size))
        clear hb2 k0 k1 k2 k3 RT
        have RV := Fact.mk (HV.out.below B2.out)
        go_wp2_with fail
        refine (read_any W2 _ l RV.out HBY.out).mono ?_
        rintro e V1 ⟨hb1, hp⟩
        have C1 := Fact.mk (B2.out.trans (hb1.mono B2.out.size))
        cases hd : readB l with
        | none =>
          rw [hd] at hp
          obtain rfl := hp
          clear hb1 hd RV
          go_wp2_with fail
          refine (awake_any _).mono ?_
          rintro e W9 ⟨rfl, hb9⟩
          have B9 := Fact.mk ((C1.out.alloc C1.out.size _).trans (hb9.mono (Nat.le_trans C1.out.size (by simp))))
          clear hb9
          go_wp2
          go_ret
          exact ⟨rfl, BEL.out.trans (B9.out.mono BEL.out.size)⟩
        | some d =>
          rw [hd] at hp
          obtain ⟨vs', bs', is', rfl, hrd⟩ := hp
          obtain ⟨dr, dok, dl⟩ := read_of HBY.out hd
          have dwf := Fact.mk (ok_wf dok)
          have hdn : Fact ((d.ins.length : Int) < 9223372036854775807) := ⟨by have := dok.ni; omega⟩
          have HRD := Fact.mk hrd
          have DR := Fact.mk dr
          have DL := Fact.mk dl
          obtain ⟨E1, e1, rfl⟩ : ∃ A c', vs' = .slice A d.vars.length c' := by obtain ⟨_, A, c', h, _⟩ := hrd.vars; exact ⟨A, c', h⟩
          obtain ⟨E2, e2, rfl⟩ : ∃ A c', bs' = .slice A d.blocks.length c' := by obtain ⟨_, A, c', h, _⟩ := hrd.blocks; exact ⟨A, c', h⟩
          obtain ⟨E3, e3, rfl⟩ : ∃ A c', is' = .slice A d.ins.length c' := by obtain ⟨_, A, c', h, _⟩ := hrd.ins; exact ⟨A, c', h⟩
          clear hb1 hd hrd dr dok dl RV
          go_wp2_with fail
          refine (bytes_any d dwf.out hdn.out _ _ _ _ (HRD.out.below (one_block V1 _).1) DR.out).mono ?_
          rintro e V2 ⟨y, rfl, hy, hb2⟩
          have D2 := Fact.mk hb2
          have C2 := Fact.mk ((C1.out.alloc C1.out.size _).trans (hb2.mono (Nat.le_trans C1.out.size (by simp))))
          have RY := Fact.mk (hy.rd oneU8_len)
          obtain ⟨F1, f1, rfl⟩ := hy.slice2
          have s1 := str_back RY.out
          have s2 := str_back (HV.out.below C2.out)
          rw [DL.out] at s2
          obtain ⟨d0, d1, d2, d3⟩ := sc_row4 ((D2.out.block V1.heap.size (by simp)).trans (heap_alloc_new V1 _))
          generalize strOfNums (codeB d) = S at s1 s2
          clear hy hb2
          go_wp2_with fail
          refine (right_any d dwf.out hdn.out _ _ _ _ (HRD.out.below ((one_block V1 _).1.trans (D2.out.mono (one_block V1 _).1.size)))).mono ?_
          rintro e V3 ⟨rfl, hb3⟩
          rw [DR.out]
          have C3 := Fact.mk (C2.out.trans (hb3.mono C2.out.size))
          clear hb3 s1 s2 d0 d1 d2 d3
          go_wp2_with fail
          refine (awake_any _).mono ?_
          rintro e W9 ⟨rfl, hb9⟩
          have B9 := Fact.mk (C3.out.trans (hb9.mono C3.out.size))
          clear hb9
          go_wp2
          go_ret
          exact ⟨rfl, BEL.out.trans (B9.out.mono BEL.out.size)⟩
end Go.Proofs.Ythiapebodpkamaa

