/- blockhouselaw16.ScanAlone: the walk. -/
import Derived.Test.YtiogpainajokkaaAlnC
import Derived.Test.YtiogpainajokkaaPlyA
import Derived.Test.YtiogpainajokkaaGrt
namespace Go.Proofs.Ytiogpainajokkaa
open Go.RowKit
set_option maxHeartbeats 4000000 in
set_option maxRecDepth 100000 in
theorem aln_any (c : GCode) (hw : c.Wf) (hnm : c.name.size ≤ 9223372036854775807) (hv : ∀ x ∈ c.vars, x.name.size ≤ 9223372036854775807) (ls : List (Value × Int)) (vs bs is lv : Value) (w : World) (h : CodeRd w c vs bs is) (hl : Rd encGo 2 w lv ls) (hls : ∀ a ∈ ls, GoOk w a) :
    Calls Try.prog 3 #[.agg #[.string c.name, vs, bs, is], lv] w fun e w' => e = .returned (.bool true) ∧ Below w.heap.size w w' := by
  obtain ⟨A1, c1, rfl⟩ : ∃ A c', vs = .slice A c.vars.length c' := by obtain ⟨_, A, c', h, _⟩ := h.vars; exact ⟨A, c', h⟩
  obtain ⟨A2, c2, rfl⟩ : ∃ A c', bs = .slice A c.blocks.length c' := by obtain ⟨_, A, c', h, _⟩ := h.blocks; exact ⟨A, c', h⟩
  obtain ⟨A3, c3, rfl⟩ : ∃ A c', is = .slice A c.ins.length c' := by obtain ⟨_, A, c', h, _⟩ := h.ins; exact ⟨A, c', h⟩
  obtain ⟨AL, cL, rfl⟩ : ∃ A c', lv = .slice A ls.length c' := by obtain ⟨_, A, c', h, _⟩ := hl; exact ⟨A, c', h⟩
  obtain ⟨b1, r1, z1⟩ := one_block w (.cells #[.string c.name, .slice A1 c.vars.length c1, .slice A2 c.blocks.length c2, .slice A3 c.ins.length c3] 26)
  have B1 := Fact.mk b1
  have R1 := Fact.mk r1
  have Z1 := Fact.mk z1
  have HL := Fact.mk hl
  have HLS := Fact.mk hls
  have HC := Fact.mk h
  have HW := Fact.mk hw
  have GR := Fact.mk (fun W (hW : Below w.heap.size w W) => great_any c _ _ _ W (h.below hW) hnm hv)
  clear b1 r1 z1 hl hls h hw hnm hv
  go_enter Try.func3, Try.ntmps3
  go_upto_region 1 with (fail)
  generalize (w.alloc (.cells #[.string c.name, .slice A1 c.vars.length c1, .slice A2 c.blocks.length c2, .slice A3 c.ins.length c3] 26)) = w2 at *
  obtain ⟨k0, k1, k2, k3⟩ : w2.cell? ⟨w.heap.size, 0, none⟩ = some (.string c.name) ∧ w2.cell? ⟨w.heap.size, 1, none⟩ = some (.slice A1 c.vars.length c1) ∧ w2.cell? ⟨w.heap.size, 2, none⟩ = some (.slice A2 c.blocks.length c2) ∧ w2.cell? ⟨w.heap.size, 3, none⟩ = some (.slice A3 c.ins.length c3) := ⟨cell_of_row _ _ 0 _ _ _ R1.out, cell_of_row _ _ 1 _ _ _ R1.out, cell_of_row _ _ 2 _ _ _ R1.out, cell_of_row _ _ 3 _ _ _ R1.out⟩
  have l2 : w.heap.size < w2.heap.size := by rw [Z1.out]; omega
  go_wp2_with fail
  refine (GR.out _ B1.out).mono ?_
  rintro e W3 ⟨g, rfl, hg, hb3⟩
  have B3 := Fact.mk (B1.out.trans (hb3.mono B1.out.size))
  cases g with
  | true =>
    clear hg hb3 k0 k1 k2 k3 l2
    go_wp2_with fail
    refine (awkS_any _).mono ?_
    rintro e W4 ⟨rfl, hb4⟩
    have B4 := Fact.mk (B3.out.trans (hb4.mono B3.out.size))
    clear hb4 B3
    go_wp2
    go_ret
    exact ⟨rfl, B4.out⟩
  | false =>
    have HG := Fact.mk (hg rfl)
    have hn : (c.ins.length : Int) < 9223372036854775807 := by have := HG.out.2.2.1; omega
    have R3 := Fact.mk ((hb3.block _ l2).trans R1.out)
    have l3 := Nat.lt_of_lt_of_le l2 hb3.size
    replace k0 := cell_below hb3 _ _ k0
    replace k1 := cell_below hb3 _ _ k1
    replace k2 := cell_below hb3 _ _ k2
    replace k3 := cell_below hb3 _ _ k3
    have PL := Fact.mk (plyA_any c HW.out hn ls _ _ _ _ (.pointer (some ⟨w.heap.size, 0, none⟩)) W3 (HC.out.below B3.out) (HL.out.below B3.out) (fun a ha => by obtain ⟨⟨xs, hx⟩, h1, h2⟩ := HLS.out a ha; exact ⟨⟨xs, hx.below B3.out⟩, h1, h2⟩)
      (fun h0 W s s' ins out n now e V B V' B' I O ht => cloA_any c HW.out hn _ _ _ W3 w.heap.size (HC.out.below B3.out) h0 R3.out W s s' ins out n now e V B V' B' I O ht))
    clear hg hb3 l2 hn R1 Z1 B1 HL HLS HC HW HG R3 GR
    go_wp2_with fail
    refine PL.out.mono ?_
    rintro e W8 ⟨rfl, hb8⟩
    have B8 := Fact.mk (B3.out.trans (hb8.mono B3.out.size))
    clear hb8 B3 PL k0 k1 k2 k3 l3
    go_wp2_with fail
    refine (awkS_any _).mono ?_
    rintro e W9 ⟨rfl, hb9⟩
    have B9 := Fact.mk (B8.out.trans (hb9.mono B8.out.size))
    clear hb9 B8
    go_wp2
    go_ret
    exact ⟨rfl, B9.out⟩
end Go.Proofs.Ytiogpainajokkaa

