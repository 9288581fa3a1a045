/- blockhouselaw16.ScanKeeps: the walk. -/
import Derived.Test.YtiogpainajokkaaKpsC
import Derived.Test.YtiogpainajokkaaPlyK
import Derived.Test.YtiogpainajokkaaGrt
namespace Go.Proofs.Ytiogpainajokkaa
open Go.RowKit
theorem clsN_take {k : Int} {vs : List GVar} {j : Nat} (h : j < vs.length) : clsN k (vs.take (j + 1)) = clsN k (vs.take j) + (if (vs[j]).cls = k then 1 else 0) := by
  unfold clsN
  rw [List.take_succ_eq_append_getElem h, List.filter_append, List.length_append]
  by_cases hc : (vs[j]).cls = k
  · rw [if_pos hc, List.filter_cons_of_pos (by simpa using hc)]; rfl
  · rw [if_neg hc, List.filter_cons_of_neg (by simpa using hc)]; rfl
theorem clsN_le (k : Int) (vs : List GVar) : clsN k vs ≤ vs.length := List.length_filter_le _ _
/-- While the outputs are counted. -/
structure KpSt (w wr : World) (X qm qo : Nat) (c : GCode) (vs bs is : Value) (k : Nat) : Prop where
  bel : Below w.heap.size w wr
  code : wr.heap[X]? = some (.cells #[.string c.name, vs, bs, is] 26 (0, 0))
  most : wr.heap[qm]? = some (.cells #[.int .i64 (stepsB c)] 3 (0, 0))
  outs : wr.heap[qo]? = some (.cells #[.int .i64 (clsN 2 (c.vars.take k) : Int)] 3 (0, 0))
  lo : w.heap.size ≤ qo
  ne : X ≠ qo
  ne2 : qm ≠ qo
theorem KpSt.next {w wr : World} {X qm qo : Nat} {c : GCode} {vs bs is : Value} {k : Nat} (h : KpSt w wr X qm qo c vs bs is k) {n : Nat} (hn : clsN 2 (c.vars.take (k + 1)) = n) : KpSt w (wr.setCell ⟨qo, 0, none⟩ (.int .i64 (n : Int))) X qm qo c vs bs is (k + 1) :=
  ⟨h.bel.setCell (p := ⟨qo, 0, none⟩) h.lo _, (heap_setCell_other wr ⟨qo, 0, none⟩ X _ h.ne).trans h.code, (heap_setCell_other wr ⟨qo, 0, none⟩ qm _ h.ne2).trans h.most, by rw [hn]; exact heap_setCell_same wr qo 0 _ _ _ h.outs, h.lo, h.ne, h.ne2⟩
set_option maxHeartbeats 4000000 in
set_option maxRecDepth 100000 in
theorem kps_any (c : GCode) (hw : c.Wf) (hnm : c.name.size ≤ 9223372036854775807) (hv : ∀ x ∈ c.vars, x.name.size ≤ 9223372036854775807) (ls : List (Value × Int)) (vs bs is lv : Value) (w : World) (h : CodeRd w c vs bs is) (hl : Rd encGo 2 w lv ls) (hls : ∀ a ∈ ls, GoOk w a) :
    Calls Try.prog 7 #[.agg #[.string c.name, vs, bs, is], lv] w fun e w' => e = .returned (.bool true) ∧ Below w.heap.size w w' := by
  obtain ⟨A1, c1, rfl⟩ : ∃ A c', vs = .slice A c.vars.length c' := by obtain ⟨_, A, c', h, _⟩ := h.vars; exact ⟨A, c', h⟩
  obtain ⟨A2, c2, rfl⟩ : ∃ A c', bs = .slice A c.blocks.length c' := by obtain ⟨_, A, c', h, _⟩ := h.blocks; exact ⟨A, c', h⟩
  obtain ⟨A3, c3, rfl⟩ : ∃ A c', is = .slice A c.ins.length c' := by obtain ⟨_, A, c', h, _⟩ := h.ins; exact ⟨A, c', h⟩
  obtain ⟨AL, cL, rfl⟩ : ∃ A c', lv = .slice A ls.length c' := by obtain ⟨_, A, c', h, _⟩ := hl; exact ⟨A, c', h⟩
  obtain ⟨b1, r1, z1⟩ := one_block w (.cells #[.string c.name, .slice A1 c.vars.length c1, .slice A2 c.blocks.length c2, .slice A3 c.ins.length c3] 26)
  have B1 := Fact.mk b1
  have R1 := Fact.mk r1
  have Z1 := Fact.mk z1
  have HL := Fact.mk hl
  have HLS := Fact.mk hls
  have HC := Fact.mk h
  have HW := Fact.mk hw
  have GR := Fact.mk (fun W (hW : Below w.heap.size w W) => great_any c _ _ _ W (h.below hW) hnm hv)
  have STP := Fact.mk (fun W (hW : Below w.heap.size w W) (hn : (c.ins.length : Int) < 9223372036854775807) => steps_any c hw hn _ _ _ W (h.below hW))
  clear b1 r1 z1 hl hls h hw hnm hv
  go_enter Try.func7, Try.ntmps7
  go_upto_region 1 with (fail)
  generalize (w.alloc (.cells #[.string c.name, .slice A1 c.vars.length c1, .slice A2 c.blocks.length c2, .slice A3 c.ins.length c3] 26)) = w2 at *
  obtain ⟨k0, k1, k2, k3⟩ : w2.cell? ⟨w.heap.size, 0, none⟩ = some (.string c.name) ∧ w2.cell? ⟨w.heap.size, 1, none⟩ = some (.slice A1 c.vars.length c1) ∧ w2.cell? ⟨w.heap.size, 2, none⟩ = some (.slice A2 c.blocks.length c2) ∧ w2.cell? ⟨w.heap.size, 3, none⟩ = some (.slice A3 c.ins.length c3) := ⟨cell_of_row _ _ 0 _ _ _ R1.out, cell_of_row _ _ 1 _ _ _ R1.out, cell_of_row _ _ 2 _ _ _ R1.out, cell_of_row _ _ 3 _ _ _ R1.out⟩
  have l2 : w.heap.size < w2.heap.size := by rw [Z1.out]; omega
  go_wp2_with fail
  refine (GR.out _ B1.out).mono ?_
  rintro e W3 ⟨g, rfl, hg, hb3⟩
  have B3 := Fact.mk (B1.out.trans (hb3.mono B1.out.size))
  cases g with
  | true =>
    clear hg hb3 k0 k1 k2 k3 l2
    go_wp2_with fail
    refine (awkS_any _).mono ?_
    rintro e W4 ⟨rfl, hb4⟩
    have B4 := Fact.mk (B3.out.trans (hb4.mono B3.out.size))
    clear hb4 B3
    go_wp2
    go_ret
    exact ⟨rfl, B4.out⟩
  | false =>
    have HG := Fact.mk (hg rfl)
    have hn : (c.ins.length : Int) < 9223372036854775807 := by have := HG.out.2.2.1; omega
    have HN := Fact.mk hn
    have R3 := Fact.mk ((hb3.block _ l2).trans R1.out)
    have l3 := Nat.lt_of_lt_of_le l2 hb3.size
    replace k0 := cell_below hb3 _ _ k0
    replace k1 := cell_below hb3 _ _ k1
    replace k2 := cell_below hb3 _ _ k2
    replace k3 := cell_below hb3 _ _ k3
    clear hg hb3 l2 hn R1 Z1 B1
    go_wp2_with fail
    refine (STP.out _ B3.out HN.out).mono ?_
    rintro e W4 ⟨rfl, hb4⟩
    have B4 := Fact.mk (B3.out.trans (hb4.mono B3.out.size))
    have R4 := Fact.mk ((hb4.block _ l3).trans R3.out)
    have l4 := Nat.lt_of_lt_of_le l3 hb4.size
    clear k0 k1 k2 k3 hb4 l3 R3 B3 STP GR
    obtain ⟨b5, r5, r6, z5⟩ := two_blocks W4 (.cells #[.int .i64 (stepsB c)] 3) (.cells #[.int .i64 0] 3)
    have ST : Fact (KpSt w ((W4.alloc (.cells #[.int .i64 (stepsB c)] 3)).alloc (.cells #[.int .i64 0] 3)) w.heap.size W4.heap.size (W4.heap.size + 1) c (.slice A1 c.vars.length c1) (.slice A2 c.blocks.length c2) (.slice A3 c.ins.length c3) 0) := ⟨⟨B4.out.trans (b5.mono B4.out.size), (b5.block _ l4).trans R4.out, r5, r6, Nat.le_succ_of_le B4.out.size, by omega, by omega⟩⟩
    clear b5 r5 r6 z5 R4 B4
    go_upto_region 5 with (fail)
    generalize (W4.alloc (.cells #[.int .i64 (stepsB c)] 3)).alloc (.cells #[.int .i64 0] 3) = w5 at *
    have k1 : w5.cell? ⟨w.heap.size, 1, none⟩ = some (.slice A1 c.vars.length c1) := cell_of_row _ _ 1 _ _ _ ST.out.code
    have l5 := World.block_lt_of_cell? w5 _ k1
    obtain ⟨qm, hqm⟩ : ∃ q, W4.heap.size = q := ⟨_, rfl⟩
    obtain ⟨qo, hqo⟩ : ∃ q, W4.heap.size + 1 = q := ⟨_, rfl⟩
    rw [hqo, hqm] at ST
    rw [hqo, hqm]
    clear hqm hqo l4
    go_wp2_with fail
    go_loopw [16] (fun i wr => ∃ k : Nat, k ≤ c.vars.length ∧ i = .int .i64 k ∧ Fact (KpSt w wr w.heap.size qm qo c (.slice A1 c.vars.length c1) (.slice A2 c.blocks.length c2) (.slice A3 c.ins.length c3) k)) (fun i _ => c.vars.length - (intOf i).toNat)
    case atStart => exact ⟨0, Nat.zero_le _, rfl, ST⟩
    case round =>
      obtain ⟨k, hk, rfl, HS⟩ := hrel
      clear ST k1 l5
      by_cases hlt : k < c.vars.length
      · obtain ⟨b1, o1, r1⟩ : ∃ b o, A1 = some ⟨b, o, none⟩ ∧ w.cell? ⟨b, o + k * 4 + 1, none⟩ = some (.int .u8 c.vars[k].cls) := by
          obtain ⟨_, A, c', e, _, _, q1⟩ := HC.out.vars
          cases e
          obtain ⟨b1, o1, rfl, r1⟩ := q1 (by omega)
          exact ⟨b1, o1, rfl, r1 k hlt 1 _ rfl⟩
        obtain ⟨rfl, d1'⟩ := r1
        have d1 := cell_below HS.out.bel _ _ d1'
        have lb1 := World.block_lt_of_cell? wr _ d1
        have i1 : (k : Int) < (c.vars.length : Int) := by omega
        have k1 : wr.cell? ⟨w.heap.size, 1, none⟩ = some (.slice (some ⟨b1, o1, none⟩) c.vars.length c1) := cell_of_row _ _ 1 _ _ _ HS.out.code
        have lX := World.block_lt_of_cell? wr _ k1
        have NX : Fact (k + 1 ≤ c.vars.length) := ⟨hlt⟩
        have hT := clsN_take (k := 2) hlt
        have hL := clsN_le 2 (c.vars.take k)
        rw [List.length_take] at hL
        have hv2 := HG.out.1
        have q0 := cell_of_row _ _ 0 _ _ _ HS.out.outs
        have q1 := frozen_of_row _ _ 0 _ _ HS.out.outs
        have lq := World.block_lt_of_cell? wr _ q0
        clear d1'
        by_cases hc : c.vars[k].cls = 2
        · rw [if_pos hc] at hT
          have e1 : (c.vars[k].cls == 2) = true := beq_iff_eq.2 hc
          generalize clsN 2 (c.vars.take k) = m at *
          have STN := Fact.mk (HS.out.next hT)
          have ew : IntKind.i64.wrap ((m : Int) + 1) = ((m + 1 : Nat) : Int) := by rw [i64_small (by omega) (by omega)]; omega
          clear hT hL hc HS
          go_wp2_with fail
          go_roundw
          case rel => exact ⟨k + 1, NX.out, by go_num, STN⟩
          case measure => simp [intOf]; omega
        · rw [if_neg hc, Nat.add_zero] at hT
          have e1 : (c.vars[k].cls == 2) = false := beq_eq_false_iff_ne.2 hc
          have STN : Fact (KpSt w wr w.heap.size qm qo c (.slice (some ⟨b1, o1, none⟩) c.vars.length c1) (.slice A2 c.blocks.length c2) (.slice A3 c.ins.length c3) (k + 1)) := ⟨⟨HS.out.bel, HS.out.code, HS.out.most, by rw [hT]; exact HS.out.outs, HS.out.lo, HS.out.ne, HS.out.ne2⟩⟩
          clear hT hL hc HS q0 q1 lq
          go_wp2_with fail
          go_roundw
          case rel => exact ⟨k + 1, NX.out, by go_num, STN⟩
          case measure => simp [intOf]; omega
      · obtain rfl : k = c.vars.length := by omega
        have ho := HS.out.outs
        rw [List.take_length] at ho
        have HB := Fact.mk HS.out.bel
        obtain ⟨k0, k1, k2, k3⟩ : wr.cell? ⟨w.heap.size, 0, none⟩ = some (.string c.name) ∧ wr.cell? ⟨w.heap.size, 1, none⟩ = some (.slice A1 c.vars.length c1) ∧ wr.cell? ⟨w.heap.size, 2, none⟩ = some (.slice A2 c.blocks.length c2) ∧ wr.cell? ⟨w.heap.size, 3, none⟩ = some (.slice A3 c.ins.length c3) := ⟨cell_of_row _ _ 0 _ _ _ HS.out.code, cell_of_row _ _ 1 _ _ _ HS.out.code, cell_of_row _ _ 2 _ _ _ HS.out.code, cell_of_row _ _ 3 _ _ _ HS.out.code⟩
        have lX := World.block_lt_of_cell? wr _ k0
        have PL := Fact.mk (plyK_any c HW.out HN.out ls _ _ _ _ (.pointer (some ⟨w.heap.size, 0, none⟩)) (.pointer (some ⟨qm, 0, none⟩)) (.pointer (some ⟨qo, 0, none⟩)) wr (HC.out.below HB.out) (HL.out.below HB.out) (fun a ha => by obtain ⟨⟨xs, hx⟩, h1, h2⟩ := HLS.out a ha; exact ⟨⟨xs, hx.below HB.out⟩, h1, h2⟩)
          (fun h0 W s s' ins out n now e V B V' B' I O ht => cloK_any c HW.out HN.out _ _ _ wr w.heap.size qm qo (HC.out.below HB.out) h0 HS.out.code (cell_of_row _ _ 0 _ _ _ HS.out.most) (cell_of_row _ _ 0 _ _ _ ho) W s s' ins out n now e V B V' B' I O ht))
        clear ho HS HL HLS HC HW HG HN
        go_wp2_with fail
        refine PL.out.mono ?_
        rintro e W8 ⟨rfl, hb8⟩
        have B8 := Fact.mk (HB.out.trans (hb8.mono HB.out.size))
        clear hb8 HB PL k0 k1 k2 k3 lX
        go_wp2_with fail
        refine (awkS_any _).mono ?_
        rintro e W9 ⟨rfl, hb9⟩
        have B9 := Fact.mk (B8.out.trans (hb9.mono B8.out.size))
        clear hb9 B8
        go_wp2
        go_ret
        exact ⟨rfl, B9.out⟩
end Go.Proofs.Ytiogpainajokkaa

