/- CodeTells: the walk. Printed by gen_tells13.py. -/
import Derived.Test.YthiapebodpkamaaR13D
import Derived.Test.YthiapebodpkamaaCbk
import Derived.Deep.RegionHeld3
import Derived.Deep.DeepCutAuto
namespace Go.Proofs.Ythiapebodpkamaa
open Go.RowKit
theorem bytes_all (c : GCode) (hw : c.Wf) (hn : (c.ins.length : Int) < 9223372036854775807) (vs bs is : Value) (w : World) (h : CodeRd w c vs bs is) :
    Calls Try.prog 28 #[.agg #[.string c.name, vs, bs, is]] w fun e w' => ∃ A n q, e = .returned (.tuple #[.slice A n q, .int .i64 (if rightB c = true then 0 else 130)]) ∧ Rd oneU8 1 w' (.slice A n q) (if rightB c = true then codeB c else []) ∧ Below w.heap.size w w' := by
  cases hr : rightB c with
  | true =>
    refine (bytes_any c hw hn vs bs is w h hr).mono ?_
    rintro e w' ⟨v, rfl, ho, hb⟩
    obtain ⟨A, n, q, rfl⟩ := ho.slice
    exact ⟨A, n, q, rfl, ho.rd oneU8_len, hb⟩
  | false =>
    refine (bytes_no c hw hn vs bs is w h hr).mono ?_
    rintro e w' ⟨rfl, hb⟩
    exact ⟨none, 0, 0, rfl, rd_nil _ _ _, hb⟩
theorem rBytes_all (c : GCode) (hw : c.Wf) (vs bs is : Value) (w : World) (h : CodeRd w c vs bs is) :
    Calls Try.prog 29 #[.agg #[.string c.name, vs, bs, is]] w fun e w' => ∃ A n q, e = .returned (.tuple #[.slice A n q, .int .i64 (if rightB c = true then 0 else 130)]) ∧ Rd oneU8 1 w' (.slice A n q) (if rightB c = true then codeB c else []) ∧ Below w.heap.size w w' := by
  refine (rBytes_any c hw vs bs is w h).mono ?_
  rintro e w' ⟨hb, hp⟩
  cases hr : rightB c with
  | true =>
    rw [hr] at hp
    obtain ⟨v, rfl, ho⟩ := hp
    obtain ⟨A, n, q, rfl⟩ := rdr_slice ho
    exact ⟨A, n, q, rfl, ho, hb⟩
  | false =>
    rw [hr] at hp
    obtain rfl := hp
    exact ⟨none, 0, 0, rfl, rd_nil _ _ _, hb⟩
def noCode : GCode := ⟨⟨#[]⟩, [], [], []⟩
theorem read_all {w : World} {l : List Int} {e : Ending} {w' : World} (h : ReadPost w l e w') : ∃ (D1 D2 D3 : Option Addr) (d1 d2 d3 : Nat), e = .returned (.tuple #[.agg #[.string ((readB l).getD noCode).name, .slice D1 ((readB l).getD noCode).vars.length d1, .slice D2 ((readB l).getD noCode).blocks.length d2, .slice D3 ((readB l).getD noCode).ins.length d3], .int .i64 (if (readB l).isSome = true then 0 else 130)]) ∧ CodeRd w' ((readB l).getD noCode) (.slice D1 ((readB l).getD noCode).vars.length d1) (.slice D2 ((readB l).getD noCode).blocks.length d2) (.slice D3 ((readB l).getD noCode).ins.length d3) ∧ Below w.heap.size w w' := by
  obtain ⟨hb, hp⟩ := h
  cases hr : readB l with
  | none =>
    rw [hr] at hp
    obtain rfl := hp
    exact ⟨none, none, none, 0, 0, 0, rfl, ⟨rd_nil _ _ _, rd_nil _ _ _, rd_nil _ _ _⟩, hb⟩
  | some c =>
    rw [hr] at hp
    obtain ⟨vs, bs, is, rfl, hc⟩ := hp
    obtain ⟨D1, d1, rfl⟩ : ∃ A c', vs = .slice A c.vars.length c' := by obtain ⟨_, A, c', h, _⟩ := hc.vars; exact ⟨A, c', h⟩
    obtain ⟨D2, d2, rfl⟩ : ∃ A c', bs = .slice A c.blocks.length c' := by obtain ⟨_, A, c', h, _⟩ := hc.blocks; exact ⟨A, c', h⟩
    obtain ⟨D3, d3, rfl⟩ : ∃ A c', is = .slice A c.ins.length c' := by obtain ⟨_, A, c', h, _⟩ := hc.ins; exact ⟨A, c', h⟩
    exact ⟨D1, D2, D3, d1, d2, d3, rfl, hc, hb⟩
set_option maxHeartbeats 8000000 in
set_option maxRecDepth 100000 in
theorem tells13_any (c : GCode) (hw : c.Wf) (vs bs is vl : Value) (l : List Int) (t n kk : Int) (w : World) (h : CodeRd w c vs bs is) (hv : Rd oneU8 1 w vl l) (hby : Bys l) (hnm : c.name.size ≤ 9223372036854775807) (hnms : ∀ x ∈ c.vars, x.name.size ≤ 9223372036854775807) :
    Calls Try.prog 11 #[.agg #[.string c.name, vs, bs, is], .agg #[vl, .int .u8 t, .int .i64 n, .int .u8 kk]] w fun e w' => e = .returned (.bool true) ∧ Below w.heap.size w w' := by
  obtain ⟨A1, c1, rfl⟩ : ∃ A c', vs = .slice A c.vars.length c' := by obtain ⟨_, A, c', h, _⟩ := h.vars; exact ⟨A, c', h⟩
  obtain ⟨A2, c2, rfl⟩ : ∃ A c', bs = .slice A c.blocks.length c' := by obtain ⟨_, A, c', h, _⟩ := h.blocks; exact ⟨A, c', h⟩
  obtain ⟨A3, c3, rfl⟩ : ∃ A c', is = .slice A c.ins.length c' := by obtain ⟨_, A, c', h, _⟩ := h.ins; exact ⟨A, c', h⟩
  obtain ⟨AL, q, cL, rfl, hq⟩ : ∃ A q c', vl = .slice A q c' ∧ l.length = q := by obtain ⟨_, A, c', h, _⟩ := hv; exact ⟨A, _, c', h, rfl⟩
  have TB := two_blocks w (Obj.cells #[.string c.name, .slice A1 c.vars.length c1, .slice A2 c.blocks.length c2, .slice A3 c.ins.length c3] 32) (Obj.cells #[.slice AL q cL, .int .u8 t, .int .i64 n, .int .u8 kk] 64)
  obtain ⟨b0, hb0⟩ : ∃ b, (w.alloc (Obj.cells #[.string c.name, .slice A1 c.vars.length c1, .slice A2 c.blocks.length c2, .slice A3 c.ins.length c3] 32)).alloc (Obj.cells #[.slice AL q cL, .int .u8 t, .int .i64 n, .int .u8 kk] 64) = b := ⟨_, rfl⟩
  rw [hb0] at TB
  have BEL := Fact.mk TB.1
  have RC := Fact.mk TB.2.1
  have RX := Fact.mk TB.2.2.1
  have H := Fact.mk (h.below BEL.out)
  have HV := Fact.mk (hv.below BEL.out)
  have GR := Fact.mk (great_any c _ _ _ _ H.out hnm hnms)
  have HW := Fact.mk hw
  have HBY := Fact.mk hby
  have HQ := Fact.mk hq
  have HB0 := Fact.mk hb0
  have hq9 : q ≤ 9223372036854775807 := by rw [← hq]; exact hv.1
  have BX : Fact (∀ W' : World, Below b0.heap.size b0 W' → (W'.cell? ⟨w.heap.size, 0, none⟩ = some (.string c.name) ∧ W'.cell? ⟨w.heap.size, 1, none⟩ = some (.slice A1 c.vars.length c1) ∧ W'.cell? ⟨w.heap.size, 2, none⟩ = some (.slice A2 c.blocks.length c2) ∧ W'.cell? ⟨w.heap.size, 3, none⟩ = some (.slice A3 c.ins.length c3)) ∧ (W'.cell? ⟨w.heap.size + 1, 0, none⟩ = some (.slice AL q cL) ∧ W'.cell? ⟨w.heap.size + 1, 1, none⟩ = some (.int .u8 t) ∧ W'.cell? ⟨w.heap.size + 1, 2, none⟩ = some (.int .i64 n) ∧ W'.cell? ⟨w.heap.size + 1, 3, none⟩ = some (.int .u8 kk))) := ⟨fun W' hW => ⟨sc_row4 ((hW.block w.heap.size (Array.getElem?_eq_some_iff.1 RC.out).1).trans RC.out), sc_row4 ((hW.block (w.heap.size + 1) (Array.getElem?_eq_some_iff.1 RX.out).1).trans RX.out)⟩⟩
  clear h hw hnm hnms hv hby hq hb0 TB
  go_enter Try.func11, Try.ntmps11
  go_wp2_with fail
  rw [HB0.out]
  refine GR.out.mono ?_
  rintro e W0 ⟨g, rfl, hg, hb1⟩
  have BB := Fact.mk hb1
  clear hb1 GR HB0
  obtain ⟨⟨k0, k1, k2, k3⟩, x0, x1, x2, x3⟩ := BX.out _ BB.out
  cases g with
  | true =>
    clear hg
    go_wp2_with fail
    refine (awake_any _).mono ?_
    rintro e W8 ⟨rfl, hb8⟩
    have B8 := Fact.mk (BB.out.trans (hb8.mono BB.out.size))
    clear hb8
    go_wp2
    go_ret
    exact ⟨rfl, BEL.out.trans (B8.out.mono BEL.out.size)⟩
  | false =>
    obtain ⟨-, -, g3, -⟩ := hg rfl
    have hn9 : (c.ins.length : Int) < 9223372036854775807 := by omega
    clear hg g3
    by_cases h3 : 30000 < q
    · have e3 : (30000 : Int) < (q : Int) := by omega
      clear h3
      go_wp2_with fail
      refine (awake_any _).mono ?_
      rintro e W8 ⟨rfl, hb8⟩
      have B8 := Fact.mk (BB.out.trans (hb8.mono BB.out.size))
      clear hb8
      go_wp2
      go_ret
      exact ⟨rfl, BEL.out.trans (B8.out.mono BEL.out.size)⟩
    · have e3 : decide ((30000 : Int) < (q : Int)) = false := decide_eq_false (by omega)
      have e4 : decide (30000 < q) = false := decide_eq_false (by omega)
      have HLM : Fact (l.length ≤ 1000000) := ⟨by rw [HQ.out]; omega⟩
      clear h3
      have K1 := Fact.mk (fun (W : World) (hW : Below b0.heap.size b0 W) => bytes_all c HW.out hn9 _ _ _ W (H.out.below hW))
      have K2 := Fact.mk (fun (W : World) (hW : Below b0.heap.size b0 W) => rBytes_all c HW.out _ _ _ W (H.out.below hW))
      have K3 := Fact.mk (fun (W : World) (hW : Below b0.heap.size b0 W) => read_any W _ l (HV.out.below hW) HBY.out)
      have K4 := Fact.mk (fun (W : World) (hW : Below b0.heap.size b0 W) => rRead_any W _ l (HV.out.below hW) HBY.out HLM.out)
      have KR := Fact.mk (fun (W : World) (hW : Below b0.heap.size b0 W) => right_any c HW.out hn9 _ _ _ W (H.out.below hW))
      have KQ := Fact.mk (fun (W : World) (hW : Below b0.heap.size b0 W) => refRight_any c HW.out _ _ _ W (H.out.below hW) _ rfl)
      obtain ⟨La, hLa⟩ : ∃ x, (if rightB c = true then codeB c else []) = x := ⟨_, rfl⟩
      obtain ⟨er, her⟩ : ∃ x : Int, (if rightB c = true then (0 : Int) else 130) = x := ⟨_, rfl⟩
      obtain ⟨rr, hrr⟩ : ∃ x, rightB c = x := ⟨_, rfl⟩
      rw [hLa, her] at K1 K2
      rw [hrr] at KR KQ
      clear hLa her hrr hn9
      go_wp2_with fail
      refine (K1.out _ BB.out).mono ?_
      rintro e W1 ⟨Aa, na, ca, rfl, ra, b1⟩
      have B1 := Fact.mk (BB.out.trans (b1.mono BB.out.size))
      have RA := Fact.mk ra
      clear ra b1 K1 k0 k1 k2 k3 x0 x1 x2 x3
      obtain ⟨⟨k0, k1, k2, k3⟩, x0, x1, x2, x3⟩ := BX.out _ B1.out
      go_wp2_with fail
      refine (K2.out _ B1.out).mono ?_
      rintro e W2 ⟨Ab, nb, cb, rfl, rb, b2⟩
      have B2 := Fact.mk (B1.out.trans (b2.mono B1.out.size))
      have RA2 := Fact.mk (RA.out.below b2)
      have RB2 := Fact.mk rb
      clear rb b2 K2 RA k0 k1 k2 k3 x0 x1 x2 x3
      obtain ⟨⟨k0, k1, k2, k3⟩, x0, x1, x2, x3⟩ := BX.out _ B2.out
      go_wp2_with fail
      refine (K3.out _ B2.out).mono ?_
      rintro e W3 hp3
      obtain ⟨D1, D2, D3, d1, d2, d3, rfl, rd3, b3⟩ := read_all hp3
      obtain ⟨d, hd⟩ : ∃ x, (readB l).getD noCode = x := ⟨_, rfl⟩
      obtain ⟨e9, he9⟩ : ∃ x : Int, (if (readB l).isSome = true then (0 : Int) else 130) = x := ⟨_, rfl⟩
      rw [hd] at rd3 ⊢
      rw [he9]
      have HD := Fact.mk (And.intro hd he9)
      have OB3 := one_block W3 (Obj.cells #[.string d.name, .slice D1 d.vars.length d1, .slice D2 d.blocks.length d2, .slice D3 d.ins.length d3] 32)
      have b4 := b3.trans (OB3.1.mono b3.size)
      have B4 := Fact.mk (B2.out.trans (b4.mono B2.out.size))
      have RA4 := Fact.mk (RA2.out.below b4)
      have RB4 := Fact.mk (RB2.out.below b4)
      have RD4 := Fact.mk (rd3.below OB3.1)
      have RG1 := Fact.mk OB3.2.1
      have LW3 := BEL.out.size
      have lw3 : w.heap.size < W3.heap.size := by have := B2.out.size; have := b3.size; have := (Array.getElem?_eq_some_iff.1 RX.out).1; omega
      clear hp3 rd3 b3 b4 OB3 K3 RA2 RB2 hd he9 k0 k1 k2 k3 x0 x1 x2 x3
      obtain ⟨⟨k0, k1, k2, k3⟩, x0, x1, x2, x3⟩ := BX.out _ B4.out
      go_upto_region 6 with (fail)
      obtain ⟨g1, hg1⟩ : ∃ g, W3.heap.size = g := ⟨_, rfl⟩
      rw [hg1] at RG1 lw3 ⊢
      clear hg1 LW3
      generalize W3.alloc (Obj.cells #[.string d.name, .slice D1 d.vars.length d1, .slice D2 d.blocks.length d2, .slice D3 d.ins.length d3] 32) = W4 at *
      go_wp2_with fail
      refine (K4.out _ B4.out).mono ?_
      rintro e W5 hp5
      obtain ⟨E1, E2, E3, e1, e2, e3z, rfl, rd5, b5⟩ := read_all hp5
      rw [HD.out.1] at rd5 ⊢
      rw [HD.out.2]
      have OB5 := one_block W5 (Obj.cells #[.string d.name, .slice E1 d.vars.length e1, .slice E2 d.blocks.length e2, .slice E3 d.ins.length e3z] 32)
      have b6 := b5.trans (OB5.1.mono b5.size)
      have B6 := Fact.mk (B4.out.trans (b6.mono B4.out.size))
      have RA6 := Fact.mk (RA4.out.below b6)
      have RB6 := Fact.mk (RB4.out.below b6)
      have RD6 := Fact.mk (RD4.out.below b6)
      have RE6 := Fact.mk (rd5.below OB5.1)
      have RH1 := Fact.mk ((b6.block g1 (Array.getElem?_eq_some_iff.1 RG1.out).1).trans RG1.out)
      have RG2 := Fact.mk OB5.2.1
      have lg1 : g1 < W5.heap.size := by have := (Array.getElem?_eq_some_iff.1 RG1.out).1; have := b5.size; omega
      clear hp5 rd5 b5 b6 OB5 K4 RA4 RB4 RD4 RG1 k0 k1 k2 k3 x0 x1 x2 x3 HD
      obtain ⟨⟨k0, k1, k2, k3⟩, x0, x1, x2, x3⟩ := BX.out _ B6.out
      go_upto_region 7 with (fail)
      obtain ⟨g2, hg2⟩ : ∃ g, W5.heap.size = g := ⟨_, rfl⟩
      rw [hg2] at RG2 lg1 ⊢
      clear hg2
      generalize W5.alloc (Obj.cells #[.string d.name, .slice E1 d.vars.length e1, .slice E2 d.blocks.length e2, .slice E3 d.ins.length e3z] 32) = W6 at *
      obtain ⟨lo, hlo⟩ : ∃ x, (rangeOf t).1 = x := ⟨_, rfl⟩
      obtain ⟨hi, hhi⟩ : ∃ x, (rangeOf t).2 = x := ⟨_, rfl⟩
      have R1 := Fact.mk (range_any t W6)
      have R2 := Fact.mk (rRange_any t W6)
      rw [hlo, hhi] at R1 R2
      clear hlo hhi
      go_wp2_with fail
      refine R1.out.mono ?_
      rintro e W ⟨rfl, rfl⟩
      go_wp2_with fail
      refine R2.out.mono ?_
      rintro e W ⟨rfl, rfl⟩
      clear R1 R2
      go_wp2_with fail
      refine (pins_any kk _).mono ?_
      rintro e W7 ⟨v1, v2, rfl, o1, o2, b7⟩
      obtain ⟨I1, i1, j1, rfl⟩ := o1.slice
      obtain ⟨I2, i2, j2, rfl⟩ := o2.slice
      have P1 := Fact.mk (o1.rd oneU8_len)
      have P2 := Fact.mk (o2.rd oneU8_len)
      have B7 := Fact.mk b7
      have C7 := Fact.mk (B6.out.trans (b7.mono B6.out.size))
      clear o1 o2 b7 k0 k1 k2 k3 x0 x1 x2 x3
      obtain ⟨⟨k0, k1, k2, k3⟩, x0, x1, x2, x3⟩ := BX.out _ C7.out
      go_wp2_with fail
      refine (rPins_any kk _).mono ?_
      rintro e W9 ⟨v3, v4, rfl, o3, o4, b9⟩
      obtain ⟨I3, i3, j3, rfl⟩ := rdr_slice o3
      obtain ⟨I4, i4, j4, rfl⟩ := rdr_slice o4
      have b79 := B7.out.trans (b9.mono B7.out.size)
      have C9 := Fact.mk (B6.out.trans (b79.mono B6.out.size))
      have KEEP : Fact (∀ W' : World, Fact (Below W9.heap.size W9 W') → (W'.cell? ⟨w.heap.size, 0, none⟩ = some (.string c.name) ∧ W'.cell? ⟨w.heap.size, 1, none⟩ = some (.slice A1 c.vars.length c1) ∧ W'.cell? ⟨w.heap.size, 2, none⟩ = some (.slice A2 c.blocks.length c2) ∧ W'.cell? ⟨w.heap.size, 3, none⟩ = some (.slice A3 c.ins.length c3)) ∧ (W'.cell? ⟨w.heap.size + 1, 0, none⟩ = some (.slice AL q cL) ∧ W'.cell? ⟨w.heap.size + 1, 1, none⟩ = some (.int .u8 t) ∧ W'.cell? ⟨w.heap.size + 1, 2, none⟩ = some (.int .i64 n) ∧ W'.cell? ⟨w.heap.size + 1, 3, none⟩ = some (.int .u8 kk)) ∧ (W'.cell? ⟨g1, 0, none⟩ = some (.string d.name) ∧ W'.cell? ⟨g1, 1, none⟩ = some (.slice D1 d.vars.length d1) ∧ W'.cell? ⟨g1, 2, none⟩ = some (.slice D2 d.blocks.length d2) ∧ W'.cell? ⟨g1, 3, none⟩ = some (.slice D3 d.ins.length d3)) ∧ (W'.cell? ⟨g2, 0, none⟩ = some (.string d.name) ∧ W'.cell? ⟨g2, 1, none⟩ = some (.slice E1 d.vars.length e1) ∧ W'.cell? ⟨g2, 2, none⟩ = some (.slice E2 d.blocks.length e2) ∧ W'.cell? ⟨g2, 3, none⟩ = some (.slice E3 d.ins.length e3z)) ∧ Fact (Below W9.heap.size W9 W')) := ⟨fun W' hW => by
        have bx := BX.out W' (C9.out.trans (hW.out.mono C9.out.size))
        have bw := b79.trans (hW.out.mono b79.size)
        exact ⟨bx.1, bx.2, sc_row4 ((bw.block g1 (Array.getElem?_eq_some_iff.1 RH1.out).1).trans RH1.out), sc_row4 ((bw.block g2 (Array.getElem?_eq_some_iff.1 RG2.out).1).trans RG2.out), hW⟩⟩
      have s1 := fun (W' : World) (hW : Fact (Below W9.heap.size W9 W')) => str_back (RA6.out.below (b79.trans (hW.out.mono b79.size)))
      have s2 := fun (W' : World) (hW : Fact (Below W9.heap.size W9 W')) => str_back (RB6.out.below (b79.trans (hW.out.mono b79.size)))
      obtain ⟨sa, hsa⟩ : ∃ s, strOfNums La = s := ⟨_, rfl⟩
      rw [hsa] at s1 s2
      have F1 : Fact (∀ W' : World, Fact (Below W9.heap.size W9 W') → Calls Try.prog 35 #[.agg #[.string d.name, .slice D1 d.vars.length d1, .slice D2 d.blocks.length d2, .slice D3 d.ins.length d3], .agg #[.string d.name, .slice E1 d.vars.length e1, .slice E2 d.blocks.length e2, .slice E3 d.ins.length e3z]] W' fun e w' => e = .returned (.bool true) ∧ Fact (Below W9.heap.size W9 w')) := ⟨fun W' hW => (sameC_any d d _ _ _ _ _ _ W' (RD6.out.below (b79.trans (hW.out.mono b79.size))) (RE6.out.below (b79.trans (hW.out.mono b79.size))) true ⟨fun _ => rfl, fun _ => rfl⟩).mono fun e w' h => ⟨h.1, ⟨hW.out.trans (h.2.mono hW.out.size)⟩⟩⟩
      have F2 : Fact (∀ W' : World, Fact (Below W9.heap.size W9 W') → Calls Try.prog 36 #[.slice I1 i1 j1, .slice I3 i3 j3] W' fun e w' => e = .returned (.bool true) ∧ Fact (Below W9.heap.size W9 w')) := ⟨fun W' hW => (same_any W' _ _ _ _ ((P1.out.below b9).below hW.out) (o3.below hW.out)).mono fun e w' h => ⟨by rw [h.1, decide_eq_true rfl], ⟨hW.out.trans (h.2.mono hW.out.size)⟩⟩⟩
      have F3 : Fact (∀ W' : World, Fact (Below W9.heap.size W9 W') → Calls Try.prog 36 #[.slice I2 i2 j2, .slice I4 i4 j4] W' fun e w' => e = .returned (.bool true) ∧ Fact (Below W9.heap.size W9 w')) := ⟨fun W' hW => (same_any W' _ _ _ _ ((P2.out.below b9).below hW.out) (o4.below hW.out)).mono fun e w' h => ⟨by rw [h.1, decide_eq_true rfl], ⟨hW.out.trans (h.2.mono hW.out.size)⟩⟩⟩
      obtain ⟨wv, hwv⟩ : ∃ x, wrapOf t n = x := ⟨_, rfl⟩
      have F4 : Fact (∀ W' : World, Fact (Below W9.heap.size W9 W') → Calls Try.prog 15 #[.int .u8 t, .int .i64 n] W' fun e w' => e = .returned (.int .i64 wv) ∧ Fact (Below W9.heap.size W9 w')) := ⟨fun W' hW => (wrap_any t n W').mono fun e w' h => ⟨by rw [h.1, hwv], ⟨by rw [← h.2]; exact hW.out⟩⟩⟩
      have F5 : Fact (∀ W' : World, Fact (Below W9.heap.size W9 W') → Calls Try.prog 37 #[.int .u8 t, .int .i64 n] W' fun e w' => e = .returned (.int .i64 wv) ∧ Fact (Below W9.heap.size W9 w')) := ⟨fun W' hW => (rWrap_any t n W').mono fun e w' h => ⟨by rw [h.1, hwv], ⟨by rw [← h.2]; exact hW.out⟩⟩⟩
      have F6 : Fact (∀ W' : World, Fact (Below W9.heap.size W9 W') → Calls Try.prog 18 #[.agg #[.string c.name, .slice A1 c.vars.length c1, .slice A2 c.blocks.length c2, .slice A3 c.ins.length c3]] W' fun e w' => e = .returned (.bool rr) ∧ Fact (Below W9.heap.size W9 w')) := ⟨fun W' hW => (KR.out W' (C9.out.trans (hW.out.mono C9.out.size))).mono fun e w' h => ⟨h.1, ⟨hW.out.trans (h.2.mono hW.out.size)⟩⟩⟩
      have F7 : Fact (∀ W' : World, Fact (Below W9.heap.size W9 W') → Calls Try.prog 38 #[.agg #[.string c.name, .slice A1 c.vars.length c1, .slice A2 c.blocks.length c2, .slice A3 c.ins.length c3]] W' fun e w' => e = .returned (.bool rr) ∧ Fact (Below W9.heap.size W9 w')) := ⟨fun W' hW => (KQ.out W' (C9.out.trans (hW.out.mono C9.out.size))).mono fun e w' h => ⟨h.1, ⟨hW.out.trans (h.2.mono hW.out.size)⟩⟩⟩
      have F8 : Fact (∀ W' : World, Fact (Below W9.heap.size W9 W') → Calls Try.prog 16 #[] W' fun e w' => e = .returned (.bool true) ∧ Fact (Below W9.heap.size W9 w')) := ⟨fun W' hW => (awake_any W').mono fun e w' h => ⟨h.1, ⟨hW.out.trans (h.2.mono hW.out.size)⟩⟩⟩
      have e5 : (sa.toList == sa.toList) = true := beq_self_eq_true _
      have e6 : (er == er) = true := beq_self_eq_true _
      have e7 : (e9 == e9) = true := beq_self_eq_true _
      have e8 : (lo == lo) = true := beq_self_eq_true _
      have ea : (hi == hi) = true := beq_self_eq_true _
      have eb : (wv == wv) = true := beq_self_eq_true _
      have ec : (rr == rr) = true := beq_self_eq_true _
      have CE := Fact.mk C9.out.size
      clear hwv o3 o4 b9 b79 P1 P2 RA6 RB6 RD6 RE6 RH1 RG2 KR KQ hsa k0 k1 k2 k3 x0 x1 x2 x3 BX B7 C7 BB B1 B2 B4 B6
      obtain ⟨⟨k0, k1, k2, k3⟩, ⟨x0, x1, x2, x3⟩, ⟨y0, y1, y2, y3⟩, ⟨z0, z1, z2, z3⟩, -⟩ := KEEP.out _ ⟨Below.refl _ _⟩
      go_upto_region 11 with (fail)
      go_region_held3 (fun W' => (W'.cell? ⟨w.heap.size, 0, none⟩ = some (.string c.name) ∧ W'.cell? ⟨w.heap.size, 1, none⟩ = some (.slice A1 c.vars.length c1) ∧ W'.cell? ⟨w.heap.size, 2, none⟩ = some (.slice A2 c.blocks.length c2) ∧ W'.cell? ⟨w.heap.size, 3, none⟩ = some (.slice A3 c.ins.length c3)) ∧ (W'.cell? ⟨w.heap.size + 1, 0, none⟩ = some (.slice AL q cL) ∧ W'.cell? ⟨w.heap.size + 1, 1, none⟩ = some (.int .u8 t) ∧ W'.cell? ⟨w.heap.size + 1, 2, none⟩ = some (.int .i64 n) ∧ W'.cell? ⟨w.heap.size + 1, 3, none⟩ = some (.int .u8 kk)) ∧ (W'.cell? ⟨g1, 0, none⟩ = some (.string d.name) ∧ W'.cell? ⟨g1, 1, none⟩ = some (.slice D1 d.vars.length d1) ∧ W'.cell? ⟨g1, 2, none⟩ = some (.slice D2 d.blocks.length d2) ∧ W'.cell? ⟨g1, 3, none⟩ = some (.slice D3 d.ins.length d3)) ∧ (W'.cell? ⟨g2, 0, none⟩ = some (.string d.name) ∧ W'.cell? ⟨g2, 1, none⟩ = some (.slice E1 d.vars.length e1) ∧ W'.cell? ⟨g2, 2, none⟩ = some (.slice E2 d.blocks.length e2) ∧ W'.cell? ⟨g2, 3, none⟩ = some (.slice E3 d.ins.length e3z)) ∧ Fact (Below W9.heap.size W9 W'))
        (first | exact KEEP.out _ ⟨(Below.refl _ _).drew⟩ | exact KEEP.out _ (by assumption))
        (first | (go_at_call 35; (with_reducible refine (F1.out _ (by first | exact ⟨(Below.refl _ _).drew⟩ | assumption)).mono ?_); rintro e X1 ⟨rfl, hx1⟩) | (go_at_call 36; (with_reducible refine (F2.out _ (by first | exact ⟨(Below.refl _ _).drew⟩ | assumption)).mono ?_); rintro e X2 ⟨rfl, hx2⟩) | (go_at_call 36; (with_reducible refine (F3.out _ (by first | exact ⟨(Below.refl _ _).drew⟩ | assumption)).mono ?_); rintro e X3 ⟨rfl, hx3⟩) | (go_at_call 15; (with_reducible refine (F4.out _ (by first | exact ⟨(Below.refl _ _).drew⟩ | assumption)).mono ?_); rintro e X4 ⟨rfl, hx4⟩) | (go_at_call 37; (with_reducible refine (F5.out _ (by first | exact ⟨(Below.refl _ _).drew⟩ | assumption)).mono ?_); rintro e X5 ⟨rfl, hx5⟩) | (go_at_call 18; (with_reducible refine (F6.out _ (by first | exact ⟨(Below.refl _ _).drew⟩ | assumption)).mono ?_); rintro e X6 ⟨rfl, hx6⟩) | (go_at_call 38; (with_reducible refine (F7.out _ (by first | exact ⟨(Below.refl _ _).drew⟩ | assumption)).mono ?_); rintro e X7 ⟨rfl, hx7⟩) | (go_at_call 16; (with_reducible refine (F8.out _ (by first | exact ⟨(Below.refl _ _).drew⟩ | assumption)).mono ?_); rintro e X8 ⟨rfl, hx8⟩))
      all_goals
        go_wp2_with fail
        go_ret
        exact ⟨rfl, BEL.out.trans ((C9.out.trans (hx8.out.mono C9.out.size)).mono BEL.out.size)⟩
end Go.Proofs.Ythiapebodpkamaa

