/- CodeCuts: the walk. -/
import Derived.Test.YthiapebodpkamaaCbk
import Derived.Test.YthiapebodpkamaaReg
namespace Go.Proofs.Ythiapebodpkamaa
open Go.RowKit
def headU (A : Option Addr) (c d : Nat) : Value := .slice (if c = 0 then A else A.map (·.add 0)) d c
theorem run_headU (W : World) (A : Option Addr) (n c d : Nat) (h : d ≤ c) : (Instr.slice 62 (.slice A n c) none (some (.int .i64 (d : Int))) none).run Try.prog W = .ok (headU A c d) W := by
  have ht : Try.prog.underlying 62 = some (.slice (Try.prog.elem 62)) := by kernel_rfl
  have hs : (Go.sizeOf (Try.prog.elem 62)).run Try.prog W = .ok 1 W := by kernel_rfl
  rw [run_slice_h W _ _ _ _ ht .i64 _ (by omega) (by omega), hs]
  simp [Result.andThen, sliced, headU]
theorem Rd.headU {w : World} {A : Option Addr} {n c : Nat} {xs : List Int} (h : Rd oneU8 1 w (.slice A n c) xs) (d : Nat) (hd : d ≤ n) : Rd oneU8 1 w (headU A c d) (xs.take d) := by
  obtain ⟨h0, A', c', e, h2, h4, h3⟩ := h
  cases e
  have hl : (xs.take d).length = d := by simp; omega
  refine ⟨by omega, _, _, by unfold Go.Proofs.Ythiapebodpkamaa.headU; rw [hl], by omega, fun e => ?_, fun hp => ?_⟩
  · by_cases hcd : c = 0
    · exact hcd
    · rw [if_neg hcd] at e
      have : A = none := by cases A <;> simp_all
      exact h4 this
  · obtain ⟨b, off, rfl, hc⟩ := h3 (by omega)
    refine ⟨b, off, ?_, fun j hj i u hu => ?_⟩
    · rw [if_neg (by omega)]
      simp [Addr.add_lit]
    · have hj' : j < xs.length := by omega
      rw [List.getElem_take] at hu
      exact hc j hj' i u hu
theorem emptyU {w : World} {m : Nat} (hm : m = w.heap.size) {B : Nat} (h : B ≤ m) : Own 5 1 oneU8 (w.alloc (.cells #[] 5)) B (.slice (some ⟨m, 0, none⟩) 0 0) ([] : List Int) := by
  subst hm
  exact row_new0 w B h 5 1
/-- Two programs that came in, boxed. -/
abbrev bx2 (w : World) (c d : GCode) (A1 A2 A3 D1 D2 D3 : Option Addr) (c1 c2 c3 d1 d2 d3 : Nat) : World := (bx13 w c A1 A2 A3 c1 c2 c3).alloc (Obj.cells #[.string d.name, .slice D1 d.vars.length d1, .slice D2 d.blocks.length d2, .slice D3 d.ins.length d3] 32)
theorem codeB_pos (c : GCode) : 0 < (codeB c).length := by
  unfold codeB headB
  simp only [List.length_append]
  have := digitsOf_pos (strB c.name).length
  rw [uintB_length]
  omega
theorem codeB_len {c : GCode} (h : rightB c = true) : (codeB c).length ≤ 1000000 := by
  obtain ⟨h1, h2, h3, h4, h5, h6, h7, h8⟩ := right_parts h
  have a1 := headB_len c h1.2 (by omega)
  have a2 : (c.vars.flatMap varB).length ≤ 80 * c.vars.length := flatMap_le varB 80 c.vars fun v hv => by
    obtain ⟨k, hk, rfl⟩ := List.mem_iff_getElem.1 hv
    exact varB_len (h6 k hk).1
  have a3 : (c.blocks.flatMap uB).length ≤ 10 * c.blocks.length := flatMap_le uB 10 c.blocks fun v hv => by
    obtain ⟨k, hk, rfl⟩ := List.mem_iff_getElem.1 hv
    have := h7 k hk
    exact uB_len _ ⟨by omega, by omega⟩
  have a4 : (c.ins.flatMap insB).length ≤ 40 * c.ins.length := flatMap_le insB 40 c.ins fun v hv => by
    obtain ⟨k, hk, rfl⟩ := List.mem_iff_getElem.1 hv
    exact insB_len (good_ins (h8 k hk) h2 h3 h5)
  have a5 := uB_len (c.blocks.length : Int) ⟨by omega, by omega⟩
  have a6 := uB_len (c.ins.length : Int) ⟨by omega, by omega⟩
  unfold codeB
  simp only [List.length_append]
  omega
theorem bx2_cells {w W : World} {c d : GCode} {A1 A2 A3 D1 D2 D3 : Option Addr} {c1 c2 c3 d1 d2 d3 : Nat} (h : Below (bx2 w c d A1 A2 A3 D1 D2 D3 c1 c2 c3 d1 d2 d3).heap.size (bx2 w c d A1 A2 A3 D1 D2 D3 c1 c2 c3 d1 d2 d3) W) :
    (W.cell? ⟨w.heap.size, 0, none⟩ = some (.string c.name) ∧ W.cell? ⟨w.heap.size, 1, none⟩ = some (.slice A1 c.vars.length c1) ∧ W.cell? ⟨w.heap.size, 2, none⟩ = some (.slice A2 c.blocks.length c2) ∧ W.cell? ⟨w.heap.size, 3, none⟩ = some (.slice A3 c.ins.length c3)) ∧
    (W.cell? ⟨w.heap.size + 1, 0, none⟩ = some (.string d.name) ∧ W.cell? ⟨w.heap.size + 1, 1, none⟩ = some (.slice D1 d.vars.length d1) ∧ W.cell? ⟨w.heap.size + 1, 2, none⟩ = some (.slice D2 d.blocks.length d2) ∧ W.cell? ⟨w.heap.size + 1, 3, none⟩ = some (.slice D3 d.ins.length d3)) := by
  have t := two_blocks w (Obj.cells #[.string c.name, .slice A1 c.vars.length c1, .slice A2 c.blocks.length c2, .slice A3 c.ins.length c3] 32) (Obj.cells #[.string d.name, .slice D1 d.vars.length d1, .slice D2 d.blocks.length d2, .slice D3 d.ins.length d3] 32)
  exact ⟨sc_row4 ((h.block w.heap.size (by rw [t.2.2.2]; omega)).trans t.2.1), sc_row4 ((h.block (w.heap.size + 1) (by rw [t.2.2.2]; omega)).trans t.2.2.1)⟩
set_option maxHeartbeats 8000000 in
set_option maxRecDepth 100000 in
theorem cuts_any (c d : GCode) (hw : c.Wf) (hwd : d.Wf) (vs bs is vs2 bs2 is2 : Value) (at_ more : Int) (ha0 : 0 ≤ at_) (ha1 : at_ ≤ 65535) (hm0 : 0 ≤ more) (hm1 : more ≤ 255) (w : World) (h : CodeRd w c vs bs is) (h2 : CodeRd w d vs2 bs2 is2) (hnm : c.name.size ≤ 9223372036854775807) (hnms : ∀ x ∈ c.vars, x.name.size ≤ 9223372036854775807) (hnm2 : d.name.size ≤ 9223372036854775807) (hnms2 : ∀ x ∈ d.vars, x.name.size ≤ 9223372036854775807) :
    Calls Try.prog 13 #[.agg #[.string c.name, vs, bs, is], .agg #[.string d.name, vs2, bs2, is2], .int .u16 at_, .int .u8 more] w fun e w' => e = .returned (.bool true) ∧ Below w.heap.size w w' := by
  obtain ⟨A1, c1, rfl⟩ : ∃ A c', vs = .slice A c.vars.length c' := by obtain ⟨_, A, c', h, _⟩ := h.vars; exact ⟨A, c', h⟩
  obtain ⟨A2, c2, rfl⟩ : ∃ A c', bs = .slice A c.blocks.length c' := by obtain ⟨_, A, c', h, _⟩ := h.blocks; exact ⟨A, c', h⟩
  obtain ⟨A3, c3, rfl⟩ : ∃ A c', is = .slice A c.ins.length c' := by obtain ⟨_, A, c', h, _⟩ := h.ins; exact ⟨A, c', h⟩
  obtain ⟨D1, d1, rfl⟩ : ∃ A c', vs2 = .slice A d.vars.length c' := by obtain ⟨_, A, c', h, _⟩ := h2.vars; exact ⟨A, c', h⟩
  obtain ⟨D2, d2, rfl⟩ : ∃ A c', bs2 = .slice A d.blocks.length c' := by obtain ⟨_, A, c', h, _⟩ := h2.blocks; exact ⟨A, c', h⟩
  obtain ⟨D3, d3, rfl⟩ : ∃ A c', is2 = .slice A d.ins.length c' := by obtain ⟨_, A, c', h, _⟩ := h2.ins; exact ⟨A, c', h⟩
  obtain ⟨X, hX⟩ : ∃ X, X = bx2 w c d A1 A2 A3 D1 D2 D3 c1 c2 c3 d1 d2 d3 := ⟨_, rfl⟩
  have BEL : Fact (Below w.heap.size w X) := ⟨by rw [hX]; exact (two_blocks w _ _).1⟩
  have CEL : Fact (∀ W : World, Below X.heap.size X W → (W.cell? ⟨w.heap.size, 0, none⟩ = some (.string c.name) ∧ W.cell? ⟨w.heap.size, 1, none⟩ = some (.slice A1 c.vars.length c1) ∧ W.cell? ⟨w.heap.size, 2, none⟩ = some (.slice A2 c.blocks.length c2) ∧ W.cell? ⟨w.heap.size, 3, none⟩ = some (.slice A3 c.ins.length c3)) ∧
      (W.cell? ⟨w.heap.size + 1, 0, none⟩ = some (.string d.name) ∧ W.cell? ⟨w.heap.size + 1, 1, none⟩ = some (.slice D1 d.vars.length d1) ∧ W.cell? ⟨w.heap.size + 1, 2, none⟩ = some (.slice D2 d.blocks.length d2) ∧ W.cell? ⟨w.heap.size + 1, 3, none⟩ = some (.slice D3 d.ins.length d3))) := ⟨fun W hW => by rw [hX] at hW; exact bx2_cells hW⟩
  have H := Fact.mk (h.below BEL.out)
  have HD := Fact.mk (h2.below BEL.out)
  have GR := Fact.mk (great_any c _ _ _ _ H.out hnm hnms)
  have GD := Fact.mk (fun (W : World) (hW : Below X.heap.size X W) => great_any d _ _ _ _ (HD.out.below hW) hnm2 hnms2)
  have HW := Fact.mk hw
  have HWD := Fact.mk hwd
  have XS := Fact.mk hX
  clear h hw hnm hnms h2 hwd hnm2 hnms2 hX
  go_enter Try.func13, Try.ntmps13
  go_upto_region 1 with (fail)
  rw [show (w.alloc (Obj.cells #[.string c.name, .slice A1 c.vars.length c1, .slice A2 c.blocks.length c2, .slice A3 c.ins.length c3] 32)).alloc (Obj.cells #[.string d.name, .slice D1 d.vars.length d1, .slice D2 d.blocks.length d2, .slice D3 d.ins.length d3] 32) = X from XS.out.symm]
  obtain ⟨⟨k0, k1, k2, k3⟩, -⟩ := CEL.out X (Below.refl _ _)
  go_wp2_with fail
  refine GR.out.mono ?_
  rintro e W0 ⟨g, rfl, hg, hb0⟩
  have BB := Fact.mk hb0
  clear hb0 GR k0 k1 k2 k3
  cases g with
  | true =>
    clear hg
    go_wp2_with fail
    refine (awake_any _).mono ?_
    rintro e W9 ⟨rfl, hb9⟩
    have B9 := Fact.mk ((BEL.out.trans (BB.out.mono BEL.out.size)).trans (hb9.mono (Nat.le_trans BEL.out.size BB.out.size)))
    clear hb9
    go_wp2
    go_ret
    exact ⟨rfl, B9.out⟩
  | false =>
    obtain ⟨-, -, g3, -⟩ := hg rfl
    have hn9 : (c.ins.length : Int) < 9223372036854775807 := by omega
    have HN9 := Fact.mk hn9
    clear hg g3 hn9
    obtain ⟨-, ⟨k0, k1, k2, k3⟩⟩ := CEL.out W0 BB.out
    go_wp2_with fail
    refine (GD.out _ BB.out).mono ?_
    rintro e W1 ⟨g, rfl, hg, hb1⟩
    have C1 := Fact.mk (BB.out.trans (hb1.mono BB.out.size))
    clear hb1 GD k0 k1 k2 k3 BB
    cases g with
    | true =>
      clear hg
      go_wp2_with fail
      refine (awake_any _).mono ?_
      rintro e W9 ⟨rfl, hb9⟩
      have B9 := Fact.mk ((BEL.out.trans (C1.out.mono BEL.out.size)).trans (hb9.mono (Nat.le_trans BEL.out.size C1.out.size)))
      clear hb9
      go_wp2
      go_ret
      exact ⟨rfl, B9.out⟩
    | false =>
      obtain ⟨-, -, g3, -⟩ := hg rfl
      have hn9d : (d.ins.length : Int) < 9223372036854775807 := by omega
      have HND := Fact.mk hn9d
      clear hg g3 hn9d
      obtain ⟨⟨k0, k1, k2, k3⟩, -⟩ := CEL.out W1 C1.out
      go_wp2_with fail
      refine (right_any c HW.out HN9.out _ _ _ W1 (H.out.below C1.out)).mono ?_
      rintro e W2 ⟨rfl, hb2⟩
      have C2 := Fact.mk (C1.out.trans (hb2.mono C1.out.size))
      clear hb2 k0 k1 k2 k3 C1
      cases hR : rightB c with
      | false =>
        clear hR
        go_wp2_with fail
        refine (awake_any _).mono ?_
        rintro e W9 ⟨rfl, hb9⟩
        have B9 := Fact.mk ((BEL.out.trans (C2.out.mono BEL.out.size)).trans (hb9.mono (Nat.le_trans BEL.out.size C2.out.size)))
        clear hb9
        go_wp2
        go_ret
        exact ⟨rfl, B9.out⟩
      | true =>
        have HR := Fact.mk hR
        have BY := Fact.mk (bytes_any c HW.out HN9.out _ _ _ W2 (H.out.below C2.out) hR)
        clear hR
        obtain ⟨⟨k0, k1, k2, k3⟩, -⟩ := CEL.out W2 C2.out
        go_wp2_with fail
        refine BY.out.mono ?_
        rintro e W3 ⟨va, rfl, hx, hb3⟩
        have C3 := Fact.mk (C2.out.trans (hb3.mono C2.out.size))
        have RA3 := Fact.mk (hx.rd oneU8_len)
        obtain ⟨X1, x1, rfl⟩ := hx.slice2
        obtain ⟨n, hn⟩ : ∃ n, (codeB c).length = n := ⟨_, rfl⟩
        rw [hn] at RA3 ⊢
        have NL := Fact.mk hn
        have NP : Fact (0 < n) := ⟨by rw [← hn]; exact codeB_pos c⟩
        clear hb3 hx BY k0 k1 k2 k3 hn C2
        have en : ((n : Int) == 0) = false := beq_eq_false_iff_ne.2 (by have := NP.out; omega)
        obtain ⟨-, ⟨k0, k1, k2, k3⟩⟩ := CEL.out W3 C3.out
        cases hRD : rightB d with
        | false =>
          have BYD := Fact.mk (bytes_no d HWD.out HND.out _ _ _ W3 (HD.out.below C3.out) hRD)
          clear hRD
          go_wp2_with fail
          refine BYD.out.mono ?_
          rintro e W4 ⟨rfl, hb4⟩
          have C4 := Fact.mk (C3.out.trans (hb4.mono C3.out.size))
          have RA4 := Fact.mk (RA3.out.below hb4)
          clear hb4 BYD k0 k1 k2 k3 C3 RA3
          go_upto_region 5 with (fail)
          go_quiet (fail)
          have C5 := Fact.mk (C4.out.trans ((below_dnS (Below.refl _ _) nq).mono C4.out.size))
          have RA5 := Fact.mk (RA4.out.below (below_dnS (Below.refl _ _) nq))
          obtain ⟨W5, hW5⟩ : ∃ W5, W5 = W4.drewN nq := ⟨_, rfl⟩
          rw [← hW5] at C5 RA5 ⊢
          clear hW5
          clear C4 RA4 en
          have hnl : (codeB c).length ≤ 1000000 := codeB_len HR.out
          obtain ⟨k, hk, hkn⟩ : ∃ k : Nat, Int.tmod at_ (n : Int) = k ∧ k < n := by
            refine ⟨at_.toNat % n, ?_, Nat.mod_lt _ NP.out⟩
            rw [Int.tmod_eq_emod_of_nonneg ha0]
            conv => lhs; rw [← Int.toNat_of_nonneg ha0]
            exact (Int.natCast_emod _ _).symm
          have hz : ((n : Int) == 0) = false := beq_eq_false_iff_ne.2 (by have := NP.out; omega)
          have hn0 : 1 ≤ n := NP.out
          have hxc : n ≤ x1 := by
            obtain ⟨_, A', c', e, h2, _⟩ := RA5.out
            injection e with _ e2 e3
            rw [e2, e3]; exact h2
          have hrun := run_headU W5 X1 n x1 k (by omega)
          have RH := Fact.mk (RA5.out.headU k (by omega))
          generalize headU X1 x1 k = hv at hrun RH
          have HN1 : Fact (readB ((codeB c).take k) = none) := ⟨read_tail HR.out HW.out (fun x hx => code_bys x (List.mem_of_mem_take hx)) (.inl (List.take_append_drop k (codeB c)).symm) (fun e => by have := congrArg List.length e; rw [List.length_drop, NL.out] at this; simp at this; omega)⟩
          have HNL := Fact.mk hnl
          have HK := Fact.mk hkn
          clear hnl hkn hxc
          go_wp2_with fail
          refine (read_any W5 _ _ RH.out (fun x hx => code_bys x (List.mem_of_mem_take hx))).mono ?_
          rintro e W6 ⟨hb6, hp⟩
          rw [HN1.out] at hp
          obtain rfl := hp
          have C6 := Fact.mk (C5.out.trans (hb6.mono C5.out.size))
          have RA6 := Fact.mk (RA5.out.below hb6)
          clear hb6 hrun RH HN1 hk hz
          obtain ⟨i0, hi, hz0, hz1, hz2⟩ := byteInfo
          go_wp2_with (at_builtin; apply Classical.byContradiction; intro hstop)
          apply hstop
          clear hstop
          refine wpList_append_rd rfl _ _ 62 rfl W6.heap.size 5 i0 (.int .u8 0) 1 1 Try.underlying62 hi hz0 hz1 hz2 rfl (by decide) (by decide) oneU8 oneU8_len oneU8_one _ [] rfl (emptyU (by simp) (by omega)) _ (codeB c) rfl ((RA6.out.below (one_block W6 _).1).below (one_block _ _).1) (by have := HNL.out; simp; omega) (by simp; omega) ?_
          intro v7 W7 ho7 hr7
          have C7 : Fact (Below X.heap.size X W7) := ⟨(((C6.out.alloc C6.out.size _).alloc (Nat.le_trans C6.out.size (by simp)) _)).grown hr7.g (Nat.le_trans C6.out.size (by simp; omega)) (fun b hb => by cases hb; have := C6.out.size; show X.heap.size ≤ W6.heap.size + 1; omega)⟩
          have lw7 : W6.heap.size + 1 + 1 ≤ W7.heap.size := by have := hr7.g.size; simp at this; omega
          have HO7 := Fact.mk ho7
          clear ho7 hr7
          go_wp2_with (at_builtin; apply Classical.byContradiction; intro hstop)
          apply hstop
          clear hstop
          refine wpList_append_rd rfl _ _ 62 rfl W6.heap.size 5 i0 (.int .u8 0) 1 1 Try.underlying62 hi hz0 hz1 hz2 rfl (by decide) (by decide) oneU8 oneU8_len oneU8_one v7 (codeB c) rfl (HO7.out.below (one_block W7 _).1) _ [more] rfl (rd_new oneU8 1 oneU8_len W7 [more] 5 (by simp)) (by have := HNL.out; simp; omega) (by simp; omega) ?_
          intro v8 W8 ho8 hr8
          have C8 : Fact (Below X.heap.size X W8) := ⟨(C7.out.alloc C7.out.size _).grown hr8.g (Nat.le_trans C7.out.size (by simp)) (fun k hk => by have := (World.ownsRow.lt HO7.out k hk).1; have := C6.out.size; omega)⟩
          have R8 := Fact.mk (ho8.rd oneU8_len)
          have HN2 : Fact (readB (codeB c ++ [more]) = none) := ⟨read_tail HR.out HW.out (code_bys.append (fun x hx => by rw [List.mem_singleton.1 hx]; exact ⟨hm0, hm1⟩)) (.inr rfl) (by simp)⟩
          clear ho8 hr8 lw7
          go_wp2_with fail
          refine (read_any W8 _ _ R8.out (code_bys.append (fun x hx => by rw [List.mem_singleton.1 hx]; exact ⟨hm0, hm1⟩))).mono ?_
          rintro e W9' ⟨hb9', hp⟩
          rw [HN2.out] at hp
          obtain rfl := hp
          have C9 := Fact.mk (C8.out.trans (hb9'.mono C8.out.size))
          clear hb9' R8 HN2
          go_wp2_with fail
          refine (awake_any _).mono ?_
          rintro e W9 ⟨rfl, hb9⟩
          have B9 := Fact.mk (((BEL.out.trans (C9.out.mono BEL.out.size)).alloc (Nat.le_trans BEL.out.size C9.out.size) _).trans (hb9.mono (Nat.le_trans BEL.out.size (Nat.le_trans C9.out.size (by simp)))))
          clear hb9
          go_wp2
          go_ret
          exact ⟨rfl, B9.out⟩
        | true =>
          have HRD := Fact.mk hRD
          have BYD := Fact.mk (bytes_any d HWD.out HND.out _ _ _ W3 (HD.out.below C3.out) hRD)
          clear hRD
          go_wp2_with fail
          refine BYD.out.mono ?_
          rintro e W4 ⟨vb, rfl, hy, hb4⟩
          have C4 := Fact.mk (C3.out.trans (hb4.mono C3.out.size))
          have RA4 := Fact.mk (RA3.out.below hb4)
          have RB4 := Fact.mk (hy.rd oneU8_len)
          obtain ⟨Y1, y1, rfl⟩ := hy.slice2
          clear hb4 BYD k0 k1 k2 k3 C3 RA3 hy
          obtain ⟨⟨k0, k1, k2, k3⟩, ⟨j0, j1, j2, j3⟩⟩ := CEL.out W4 C4.out
          by_cases hcd : c = d
          · have SM : Fact (∀ W' : World, Fact (Below W4.heap.size W4 W') → Calls Try.prog 35 #[.agg #[.string c.name, .slice A1 c.vars.length c1, .slice A2 c.blocks.length c2, .slice A3 c.ins.length c3], .agg #[.string d.name, .slice D1 d.vars.length d1, .slice D2 d.blocks.length d2, .slice D3 d.ins.length d3]] W' fun e w' => e = .returned (.bool true) ∧ Fact (Below W4.heap.size W4 w')) := ⟨fun W' hW => (sameC_any c d _ _ _ _ _ _ W' (H.out.below (C4.out.trans (hW.out.mono C4.out.size))) (HD.out.below (C4.out.trans (hW.out.mono C4.out.size))) true (by simp [hcd])).mono fun e w' h => ⟨h.1, ⟨hW.out.trans (h.2.mono hW.out.size)⟩⟩⟩
            have s1 := fun (W' : World) (hW : Fact (Below W4.heap.size W4 W')) => str_back (RA4.out.below hW.out)
            have s2 := fun (W' : World) (hW : Fact (Below W4.heap.size W4 W')) => str_back (RB4.out.below hW.out)
            obtain ⟨sa, hsa⟩ : ∃ s, strOfNums (codeB c) = s := ⟨_, rfl⟩
            obtain ⟨sb, hsb⟩ : ∃ s, strOfNums (codeB d) = s := ⟨_, rfl⟩
            rw [hsa] at s1
            rw [hsb] at s2
            obtain rfl : sa = sb := by rw [← hsa, ← hsb, hcd]
            have KEEP : Fact (∀ W' : World, Fact (Below W4.heap.size W4 W') → ((W'.cell? ⟨w.heap.size, 0, none⟩ = some (.string c.name) ∧ W'.cell? ⟨w.heap.size, 1, none⟩ = some (.slice A1 c.vars.length c1) ∧ W'.cell? ⟨w.heap.size, 2, none⟩ = some (.slice A2 c.blocks.length c2) ∧ W'.cell? ⟨w.heap.size, 3, none⟩ = some (.slice A3 c.ins.length c3)) ∧ (W'.cell? ⟨w.heap.size + 1, 0, none⟩ = some (.string d.name) ∧ W'.cell? ⟨w.heap.size + 1, 1, none⟩ = some (.slice D1 d.vars.length d1) ∧ W'.cell? ⟨w.heap.size + 1, 2, none⟩ = some (.slice D2 d.blocks.length d2) ∧ W'.cell? ⟨w.heap.size + 1, 3, none⟩ = some (.slice D3 d.ins.length d3)) ∧ Fact (Below W4.heap.size W4 W'))) := ⟨fun W' hW => ⟨(CEL.out W' (C4.out.trans (hW.out.mono C4.out.size))).1, (CEL.out W' (C4.out.trans (hW.out.mono C4.out.size))).2, hW⟩⟩
            clear hsa hsb hcd
            go_upto_region 5 with (fail)
            go_cut [60] from 39 to 60 (fun sx wx => sx = .bool false ∧ Fact (Below W4.heap.size W4 wx))
            case first =>
              go_region_held3 (fun W' => ((W'.cell? ⟨w.heap.size, 0, none⟩ = some (.string c.name) ∧ W'.cell? ⟨w.heap.size, 1, none⟩ = some (.slice A1 c.vars.length c1) ∧ W'.cell? ⟨w.heap.size, 2, none⟩ = some (.slice A2 c.blocks.length c2) ∧ W'.cell? ⟨w.heap.size, 3, none⟩ = some (.slice A3 c.ins.length c3)) ∧ (W'.cell? ⟨w.heap.size + 1, 0, none⟩ = some (.string d.name) ∧ W'.cell? ⟨w.heap.size + 1, 1, none⟩ = some (.slice D1 d.vars.length d1) ∧ W'.cell? ⟨w.heap.size + 1, 2, none⟩ = some (.slice D2 d.blocks.length d2) ∧ W'.cell? ⟨w.heap.size + 1, 3, none⟩ = some (.slice D3 d.ins.length d3)) ∧ Fact (Below W4.heap.size W4 W')))
                (first | exact KEEP.out _ ⟨(Below.refl _ _).drew⟩ | exact KEEP.out _ (by assumption))
                (first | (go_at_call 35; (with_reducible refine (SM.out _ (by first | exact ⟨(Below.refl _ _).drew⟩ | assumption)).mono ?_); rintro e W5 ⟨rfl, hb5⟩))
              all_goals (go_wp2_with fail; go_meet; exact ⟨rfl, hb5⟩)
            case rest =>
              obtain ⟨rfl, hb5⟩ := hcut
              obtain ⟨W5, hW5⟩ : ∃ W5, W5 = wc := ⟨_, rfl⟩
              rw [← hW5] at hb5 ⊢
              have C5 := Fact.mk (C4.out.trans (hb5.out.mono C4.out.size))
              have RA5 := Fact.mk (RA4.out.below hb5.out)
              clear hb5 hW5 KEEP SM s1 s2 k0 k1 k2 k3 j0 j1 j2 j3 C4 RA4 RB4 en
              have hnl : (codeB c).length ≤ 1000000 := codeB_len HR.out
              obtain ⟨k, hk, hkn⟩ : ∃ k : Nat, Int.tmod at_ (n : Int) = k ∧ k < n := by
                refine ⟨at_.toNat % n, ?_, Nat.mod_lt _ NP.out⟩
                rw [Int.tmod_eq_emod_of_nonneg ha0]
                conv => lhs; rw [← Int.toNat_of_nonneg ha0]
                exact (Int.natCast_emod _ _).symm
              have hz : ((n : Int) == 0) = false := beq_eq_false_iff_ne.2 (by have := NP.out; omega)
              have hn0 : 1 ≤ n := NP.out
              have hxc : n ≤ x1 := by
                obtain ⟨_, A', c', e, h2, _⟩ := RA5.out
                injection e with _ e2 e3
                rw [e2, e3]; exact h2
              have hrun := run_headU W5 X1 n x1 k (by omega)
              have RH := Fact.mk (RA5.out.headU k (by omega))
              generalize headU X1 x1 k = hv at hrun RH
              have HN1 : Fact (readB ((codeB c).take k) = none) := ⟨read_tail HR.out HW.out (fun x hx => code_bys x (List.mem_of_mem_take hx)) (.inl (List.take_append_drop k (codeB c)).symm) (fun e => by have := congrArg List.length e; rw [List.length_drop, NL.out] at this; simp at this; omega)⟩
              have HNL := Fact.mk hnl
              have HK := Fact.mk hkn
              clear hnl hkn hxc
              go_wp2_with fail
              refine (read_any W5 _ _ RH.out (fun x hx => code_bys x (List.mem_of_mem_take hx))).mono ?_
              rintro e W6 ⟨hb6, hp⟩
              rw [HN1.out] at hp
              obtain rfl := hp
              have C6 := Fact.mk (C5.out.trans (hb6.mono C5.out.size))
              have RA6 := Fact.mk (RA5.out.below hb6)
              clear hb6 hrun RH HN1 hk hz
              obtain ⟨i0, hi, hz0, hz1, hz2⟩ := byteInfo
              go_wp2_with (at_builtin; apply Classical.byContradiction; intro hstop)
              apply hstop
              clear hstop
              refine wpList_append_rd rfl _ _ 62 rfl W6.heap.size 5 i0 (.int .u8 0) 1 1 Try.underlying62 hi hz0 hz1 hz2 rfl (by decide) (by decide) oneU8 oneU8_len oneU8_one _ [] rfl (emptyU (by simp) (by omega)) _ (codeB c) rfl ((RA6.out.below (one_block W6 _).1).below (one_block _ _).1) (by have := HNL.out; simp; omega) (by simp; omega) ?_
              intro v7 W7 ho7 hr7
              have C7 : Fact (Below X.heap.size X W7) := ⟨(((C6.out.alloc C6.out.size _).alloc (Nat.le_trans C6.out.size (by simp)) _)).grown hr7.g (Nat.le_trans C6.out.size (by simp; omega)) (fun b hb => by cases hb; have := C6.out.size; show X.heap.size ≤ W6.heap.size + 1; omega)⟩
              have lw7 : W6.heap.size + 1 + 1 ≤ W7.heap.size := by have := hr7.g.size; simp at this; omega
              have HO7 := Fact.mk ho7
              clear ho7 hr7
              go_wp2_with (at_builtin; apply Classical.byContradiction; intro hstop)
              apply hstop
              clear hstop
              refine wpList_append_rd rfl _ _ 62 rfl W6.heap.size 5 i0 (.int .u8 0) 1 1 Try.underlying62 hi hz0 hz1 hz2 rfl (by decide) (by decide) oneU8 oneU8_len oneU8_one v7 (codeB c) rfl (HO7.out.below (one_block W7 _).1) _ [more] rfl (rd_new oneU8 1 oneU8_len W7 [more] 5 (by simp)) (by have := HNL.out; simp; omega) (by simp; omega) ?_
              intro v8 W8 ho8 hr8
              have C8 : Fact (Below X.heap.size X W8) := ⟨(C7.out.alloc C7.out.size _).grown hr8.g (Nat.le_trans C7.out.size (by simp)) (fun k hk => by have := (World.ownsRow.lt HO7.out k hk).1; have := C6.out.size; omega)⟩
              have R8 := Fact.mk (ho8.rd oneU8_len)
              have HN2 : Fact (readB (codeB c ++ [more]) = none) := ⟨read_tail HR.out HW.out (code_bys.append (fun x hx => by rw [List.mem_singleton.1 hx]; exact ⟨hm0, hm1⟩)) (.inr rfl) (by simp)⟩
              clear ho8 hr8 lw7
              go_wp2_with fail
              refine (read_any W8 _ _ R8.out (code_bys.append (fun x hx => by rw [List.mem_singleton.1 hx]; exact ⟨hm0, hm1⟩))).mono ?_
              rintro e W9' ⟨hb9', hp⟩
              rw [HN2.out] at hp
              obtain rfl := hp
              have C9 := Fact.mk (C8.out.trans (hb9'.mono C8.out.size))
              clear hb9' R8 HN2
              go_wp2_with fail
              refine (awake_any _).mono ?_
              rintro e W9 ⟨rfl, hb9⟩
              have B9 := Fact.mk (((BEL.out.trans (C9.out.mono BEL.out.size)).alloc (Nat.le_trans BEL.out.size C9.out.size) _).trans (hb9.mono (Nat.le_trans BEL.out.size (Nat.le_trans C9.out.size (by simp)))))
              clear hb9
              go_wp2
              go_ret
              exact ⟨rfl, B9.out⟩
          · have SM : Fact (∀ W' : World, Fact (Below W4.heap.size W4 W') → Calls Try.prog 35 #[.agg #[.string c.name, .slice A1 c.vars.length c1, .slice A2 c.blocks.length c2, .slice A3 c.ins.length c3], .agg #[.string d.name, .slice D1 d.vars.length d1, .slice D2 d.blocks.length d2, .slice D3 d.ins.length d3]] W' fun e w' => e = .returned (.bool false) ∧ Fact (Below W4.heap.size W4 w')) := ⟨fun W' hW => (sameC_any c d _ _ _ _ _ _ W' (H.out.below (C4.out.trans (hW.out.mono C4.out.size))) (HD.out.below (C4.out.trans (hW.out.mono C4.out.size))) false (by simp [hcd])).mono fun e w' h => ⟨h.1, ⟨hW.out.trans (h.2.mono hW.out.size)⟩⟩⟩
            have s1 := fun (W' : World) (hW : Fact (Below W4.heap.size W4 W')) => str_back (RA4.out.below hW.out)
            have s2 := fun (W' : World) (hW : Fact (Below W4.heap.size W4 W')) => str_back (RB4.out.below hW.out)
            obtain ⟨sa, hsa⟩ : ∃ s, strOfNums (codeB c) = s := ⟨_, rfl⟩
            obtain ⟨sb, hsb⟩ : ∃ s, strOfNums (codeB d) = s := ⟨_, rfl⟩
            rw [hsa] at s1
            rw [hsb] at s2
            have hne : ¬ sa.toList = sb.toList := fun e => hcd (code_inj HR.out HW.out HRD.out HWD.out (by rw [← strB_strOf code_bys, hsa, sc_name e, ← hsb, strB_strOf code_bys]))
            have hne2 : (sa.toList == sb.toList) = false := beq_eq_false_iff_ne.2 hne
            have KEEP : Fact (∀ W' : World, Fact (Below W4.heap.size W4 W') → ((W'.cell? ⟨w.heap.size, 0, none⟩ = some (.string c.name) ∧ W'.cell? ⟨w.heap.size, 1, none⟩ = some (.slice A1 c.vars.length c1) ∧ W'.cell? ⟨w.heap.size, 2, none⟩ = some (.slice A2 c.blocks.length c2) ∧ W'.cell? ⟨w.heap.size, 3, none⟩ = some (.slice A3 c.ins.length c3)) ∧ (W'.cell? ⟨w.heap.size + 1, 0, none⟩ = some (.string d.name) ∧ W'.cell? ⟨w.heap.size + 1, 1, none⟩ = some (.slice D1 d.vars.length d1) ∧ W'.cell? ⟨w.heap.size + 1, 2, none⟩ = some (.slice D2 d.blocks.length d2) ∧ W'.cell? ⟨w.heap.size + 1, 3, none⟩ = some (.slice D3 d.ins.length d3)) ∧ Fact (Below W4.heap.size W4 W'))) := ⟨fun W' hW => ⟨(CEL.out W' (C4.out.trans (hW.out.mono C4.out.size))).1, (CEL.out W' (C4.out.trans (hW.out.mono C4.out.size))).2, hW⟩⟩
            clear hsa hsb hcd
            go_upto_region 5 with (fail)
            go_cut [60] from 39 to 60 (fun sx wx => sx = .bool false ∧ Fact (Below W4.heap.size W4 wx))
            case first =>
              go_region_held3 (fun W' => ((W'.cell? ⟨w.heap.size, 0, none⟩ = some (.string c.name) ∧ W'.cell? ⟨w.heap.size, 1, none⟩ = some (.slice A1 c.vars.length c1) ∧ W'.cell? ⟨w.heap.size, 2, none⟩ = some (.slice A2 c.blocks.length c2) ∧ W'.cell? ⟨w.heap.size, 3, none⟩ = some (.slice A3 c.ins.length c3)) ∧ (W'.cell? ⟨w.heap.size + 1, 0, none⟩ = some (.string d.name) ∧ W'.cell? ⟨w.heap.size + 1, 1, none⟩ = some (.slice D1 d.vars.length d1) ∧ W'.cell? ⟨w.heap.size + 1, 2, none⟩ = some (.slice D2 d.blocks.length d2) ∧ W'.cell? ⟨w.heap.size + 1, 3, none⟩ = some (.slice D3 d.ins.length d3)) ∧ Fact (Below W4.heap.size W4 W')))
                (first | exact KEEP.out _ ⟨(Below.refl _ _).drew⟩ | exact KEEP.out _ (by assumption))
                (first | (go_at_call 35; (with_reducible refine (SM.out _ (by first | exact ⟨(Below.refl _ _).drew⟩ | assumption)).mono ?_); rintro e W5 ⟨rfl, hb5⟩))
              all_goals (go_wp2_with fail; go_meet; exact ⟨rfl, hb5⟩)
            case rest =>
              obtain ⟨rfl, hb5⟩ := hcut
              obtain ⟨W5, hW5⟩ : ∃ W5, W5 = wc := ⟨_, rfl⟩
              rw [← hW5] at hb5 ⊢
              have C5 := Fact.mk (C4.out.trans (hb5.out.mono C4.out.size))
              have RA5 := Fact.mk (RA4.out.below hb5.out)
              clear hb5 hW5 KEEP SM s1 s2 k0 k1 k2 k3 j0 j1 j2 j3 C4 RA4 RB4 en
              have hnl : (codeB c).length ≤ 1000000 := codeB_len HR.out
              obtain ⟨k, hk, hkn⟩ : ∃ k : Nat, Int.tmod at_ (n : Int) = k ∧ k < n := by
                refine ⟨at_.toNat % n, ?_, Nat.mod_lt _ NP.out⟩
                rw [Int.tmod_eq_emod_of_nonneg ha0]
                conv => lhs; rw [← Int.toNat_of_nonneg ha0]
                exact (Int.natCast_emod _ _).symm
              have hz : ((n : Int) == 0) = false := beq_eq_false_iff_ne.2 (by have := NP.out; omega)
              have hn0 : 1 ≤ n := NP.out
              have hxc : n ≤ x1 := by
                obtain ⟨_, A', c', e, h2, _⟩ := RA5.out
                injection e with _ e2 e3
                rw [e2, e3]; exact h2
              have hrun := run_headU W5 X1 n x1 k (by omega)
              have RH := Fact.mk (RA5.out.headU k (by omega))
              generalize headU X1 x1 k = hv at hrun RH
              have HN1 : Fact (readB ((codeB c).take k) = none) := ⟨read_tail HR.out HW.out (fun x hx => code_bys x (List.mem_of_mem_take hx)) (.inl (List.take_append_drop k (codeB c)).symm) (fun e => by have := congrArg List.length e; rw [List.length_drop, NL.out] at this; simp at this; omega)⟩
              have HNL := Fact.mk hnl
              have HK := Fact.mk hkn
              clear hnl hkn hxc
              go_wp2_with fail
              refine (read_any W5 _ _ RH.out (fun x hx => code_bys x (List.mem_of_mem_take hx))).mono ?_
              rintro e W6 ⟨hb6, hp⟩
              rw [HN1.out] at hp
              obtain rfl := hp
              have C6 := Fact.mk (C5.out.trans (hb6.mono C5.out.size))
              have RA6 := Fact.mk (RA5.out.below hb6)
              clear hb6 hrun RH HN1 hk hz
              obtain ⟨i0, hi, hz0, hz1, hz2⟩ := byteInfo
              go_wp2_with (at_builtin; apply Classical.byContradiction; intro hstop)
              apply hstop
              clear hstop
              refine wpList_append_rd rfl _ _ 62 rfl W6.heap.size 5 i0 (.int .u8 0) 1 1 Try.underlying62 hi hz0 hz1 hz2 rfl (by decide) (by decide) oneU8 oneU8_len oneU8_one _ [] rfl (emptyU (by simp) (by omega)) _ (codeB c) rfl ((RA6.out.below (one_block W6 _).1).below (one_block _ _).1) (by have := HNL.out; simp; omega) (by simp; omega) ?_
              intro v7 W7 ho7 hr7
              have C7 : Fact (Below X.heap.size X W7) := ⟨(((C6.out.alloc C6.out.size _).alloc (Nat.le_trans C6.out.size (by simp)) _)).grown hr7.g (Nat.le_trans C6.out.size (by simp; omega)) (fun b hb => by cases hb; have := C6.out.size; show X.heap.size ≤ W6.heap.size + 1; omega)⟩
              have lw7 : W6.heap.size + 1 + 1 ≤ W7.heap.size := by have := hr7.g.size; simp at this; omega
              have HO7 := Fact.mk ho7
              clear ho7 hr7
              go_wp2_with (at_builtin; apply Classical.byContradiction; intro hstop)
              apply hstop
              clear hstop
              refine wpList_append_rd rfl _ _ 62 rfl W6.heap.size 5 i0 (.int .u8 0) 1 1 Try.underlying62 hi hz0 hz1 hz2 rfl (by decide) (by decide) oneU8 oneU8_len oneU8_one v7 (codeB c) rfl (HO7.out.below (one_block W7 _).1) _ [more] rfl (rd_new oneU8 1 oneU8_len W7 [more] 5 (by simp)) (by have := HNL.out; simp; omega) (by simp; omega) ?_
              intro v8 W8 ho8 hr8
              have C8 : Fact (Below X.heap.size X W8) := ⟨(C7.out.alloc C7.out.size _).grown hr8.g (Nat.le_trans C7.out.size (by simp)) (fun k hk => by have := (World.ownsRow.lt HO7.out k hk).1; have := C6.out.size; omega)⟩
              have R8 := Fact.mk (ho8.rd oneU8_len)
              have HN2 : Fact (readB (codeB c ++ [more]) = none) := ⟨read_tail HR.out HW.out (code_bys.append (fun x hx => by rw [List.mem_singleton.1 hx]; exact ⟨hm0, hm1⟩)) (.inr rfl) (by simp)⟩
              clear ho8 hr8 lw7
              go_wp2_with fail
              refine (read_any W8 _ _ R8.out (code_bys.append (fun x hx => by rw [List.mem_singleton.1 hx]; exact ⟨hm0, hm1⟩))).mono ?_
              rintro e W9' ⟨hb9', hp⟩
              rw [HN2.out] at hp
              obtain rfl := hp
              have C9 := Fact.mk (C8.out.trans (hb9'.mono C8.out.size))
              clear hb9' R8 HN2
              go_wp2_with fail
              refine (awake_any _).mono ?_
              rintro e W9 ⟨rfl, hb9⟩
              have B9 := Fact.mk (((BEL.out.trans (C9.out.mono BEL.out.size)).alloc (Nat.le_trans BEL.out.size C9.out.size) _).trans (hb9.mono (Nat.le_trans BEL.out.size (Nat.le_trans C9.out.size (by simp)))))
              clear hb9
              go_wp2
              go_ret
              exact ⟨rfl, B9.out⟩
end Go.Proofs.Ythiapebodpkamaa

