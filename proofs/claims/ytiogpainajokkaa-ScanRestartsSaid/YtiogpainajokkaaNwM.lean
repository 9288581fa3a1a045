/- Contract of scan.first: a program's state at first. -/
import Derived.Test.YtiogpainajokkaaOwnM
import Derived.Test.YtiogpainajokkaaBlkM
namespace Go.Proofs.Ytiogpainajokkaa
open Go.RowKit
/-- A state under way, its box at G. -/
structure FrSt (w3 wr : World) (G : Nat) (xs : List Int) (bs : List GBlock) (V B : Value) : Prop where
  row : wr.heap[G]? = some (.cells #[V, B] 34 (0, 0))
  oV : Own 2 1 oneI64 wr w3.heap.size V xs
  oB : Own 67 10 encBlk wr w3.heap.size B bs
  gr : w3.grownBy wr (some G)
  lt : G < w3.heap.size
section
variable {w3 wr W' : World} {G : Nat} {xs : List Int} {bs : List GBlock} {V B V' : Value}
theorem FrSt.below (h : FrSt w3 wr G xs bs V B) (hb : Below wr.heap.size wr W') : FrSt w3 W' G xs bs V B :=
  ⟨(hb.block G (Array.getElem?_eq_some_iff.1 h.row).1).trans h.row, h.oV.below hb, h.oB.below hb, grown_trans h.gr (grown_below hb _), h.lt⟩
theorem FrSt.pushV {x : Int} (h : FrSt w3 wr G xs bs V B) (hr : Row V wr V' W') (ho : Own 2 1 oneI64 W' w3.heap.size V' (xs ++ [x])) :
    W'.heap[G]? = some (.cells #[V, B] 34 (0, 0)) ∧ FrSt w3 (W'.setCell ⟨G, 0, none⟩ V') G (xs ++ [x]) bs V' B := by
  have hne : some G ≠ V.ownBlock := fun e => by
    have := (World.ownsRow.lt h.oV G e.symm).1
    have := h.lt
    omega
  have r1 := (hr.g.block G (Array.getElem?_eq_some_iff.1 h.row).1 hne).trans h.row
  have oB1 := h.oB.row hr (fun b hb e => by
    obtain ⟨_, cur, h2⟩ := own_typed h.oB b hb
    obtain ⟨_, cur', h3⟩ := own_typed h.oV b e
    rw [h2] at h3
    injection h3 with h3
    injection h3 with _ e2 _
    exact absurd e2 (by decide))
  refine ⟨r1, set2_0 r1, ho.set r1 (by decide) 0 V', oB1.set r1 (by decide) 0 V', ?_, h.lt⟩
  refine ⟨hr.g.os.trans h.gr.os, hr.g.tape.trans h.gr.tape, hr.g.output.trans h.gr.output, Nat.le_trans h.gr.size (by simpa using hr.g.size), fun i hi hn => ?_⟩
  rw [Below.heap_setCell W' ⟨G, 0, none⟩ V' i (fun e => hn (by rw [e])), hr.g.block i (Nat.lt_of_lt_of_le hi h.gr.size) (fun e => by
    have := (World.ownsRow.lt h.oV i e.symm).1
    omega)]
  exact h.gr.block i hi hn
theorem FrSt.pushB {b : GBlock} {B' : Value} (h : FrSt w3 wr G xs bs V B) (hr : Row B wr B' W') (ho : Own 67 10 encBlk W' w3.heap.size B' (bs ++ [b])) :
    W'.heap[G]? = some (.cells #[V, B] 34 (0, 0)) ∧ FrSt w3 (W'.setCell ⟨G, 1, none⟩ B') G xs (bs ++ [b]) V B' := by
  have hne : some G ≠ B.ownBlock := fun e => by
    have := (World.ownsRow.lt h.oB G e.symm).1
    have := h.lt
    omega
  have r1 := (hr.g.block G (Array.getElem?_eq_some_iff.1 h.row).1 hne).trans h.row
  have oV1 := h.oV.row hr (fun b hb e => by
    obtain ⟨_, cur, h2⟩ := own_typed h.oV b hb
    obtain ⟨_, cur', h3⟩ := own_typed h.oB b e
    rw [h2] at h3
    injection h3 with h3
    injection h3 with _ e2 _
    exact absurd e2 (by decide))
  refine ⟨r1, set2_1 r1, oV1.set r1 (by decide) 1 B', ho.set r1 (by decide) 1 B', ?_, h.lt⟩
  refine ⟨hr.g.os.trans h.gr.os, hr.g.tape.trans h.gr.tape, hr.g.output.trans h.gr.output, Nat.le_trans h.gr.size (by simpa using hr.g.size), fun i hi hn => ?_⟩
  rw [Below.heap_setCell W' ⟨G, 1, none⟩ B' i (fun e => hn (by rw [e])), hr.g.block i (Nat.lt_of_lt_of_le hi h.gr.size) (fun e => by
    have := (World.ownsRow.lt h.oB i e.symm).1
    omega)]
  exact h.gr.block i hi hn
end
theorem map_take_succ {α β : Type} (f : α → β) (l : List α) {k : Nat} (h : k < l.length) : (l.take (k + 1)).map f = (l.take k).map f ++ [f l[k]] := by
  rw [List.take_succ_eq_append_getElem h, List.map_append]
  rfl
set_option maxHeartbeats 4000000 in
set_option maxRecDepth 100000 in
theorem first_any (c : GCode) (vs bs is : Value) (w : World) (h : CodeRd w c vs bs is) (h1 : c.vars.length ≤ 1000) (h2 : c.blocks.length ≤ 1000) (hk : ∀ k ∈ c.blocks, 1 ≤ k ∧ k ≤ 11) :
    Calls Try.prog 50 #[.agg #[.string c.name, vs, bs, is]] w (OwnPost w (firstB c)) := by
  obtain ⟨i0, hi, hz0, hz1, hz2⟩ := i64_info
  obtain ⟨ib, hib, hb0, hb1, hb2⟩ := blk_info
  obtain ⟨A1, c1, rfl⟩ : ∃ A c', vs = .slice A c.vars.length c' := by obtain ⟨_, A, c', h, _⟩ := h.vars; exact ⟨A, c', h⟩
  obtain ⟨A2, c2, rfl⟩ : ∃ A c', bs = .slice A c.blocks.length c' := by obtain ⟨_, A, c', h, _⟩ := h.blocks; exact ⟨A, c', h⟩
  obtain ⟨A3, c3, rfl⟩ : ∃ A c', is = .slice A c.ins.length c' := by obtain ⟨_, A, c', h, _⟩ := h.ins; exact ⟨A, c', h⟩
  obtain ⟨w0, hw0, b0, r1, r2, r3, z3⟩ := three_blocks w (.cells #[.string c.name, .slice A1 c.vars.length c1, .slice A2 c.blocks.length c2, .slice A3 c.ins.length c3] 26) (.cells #[.slice none 0 0, .slice none 0 0] 34) (.cells #[.slice none 0 0, .slice none 0 0] 34)
  have HC := Fact.mk h
  have HK := Fact.mk hk
  have HL := Fact.mk (And.intro h1 h2)
  clear h hk h1 h2
  go_enter Try.func50, Try.ntmps50
  go_upto_region 2 with (fail)
  rw [← hw0]
  have B0 := Fact.mk b0
  have R1 := Fact.mk r1
  have R2 := Fact.mk r2
  have L0 : w.heap.size + 1 + 1 < w0.heap.size := by omega
  have k1 : w0.cell? ⟨w.heap.size, 1, none⟩ = some (.slice A1 c.vars.length c1) := cell_of_row _ _ 1 _ _ _ r1
  have F0 : Fact (FrSt w0 w0 (w.heap.size + 1 + 1) [] [] (.slice none 0 0) (.slice none 0 0)) := ⟨⟨r3, Own.nil _ _ _ _ _, Own.nil _ _ _ _ _, grown_refl _ _, L0⟩⟩
  clear hw0 b0 r1 r2 r3 z3
  go_wp2_with fail
  go_loopw [13] (fun i wr => ∃ (k : Nat) (V : Value), k ≤ c.vars.length ∧ i = .int .i64 k ∧ Fact (FrSt w0 wr (w.heap.size + 1 + 1) ((c.vars.take k).map (·.first)) [] V (.slice none 0 0))) (fun i _ => c.vars.length - (intOf i).toNat)
  case atStart => exact ⟨0, _, Nat.zero_le _, rfl, F0⟩
  case round =>
    obtain ⟨k, V, hk, rfl, HS⟩ := hrel
    have HB : Fact (Below w.heap.size w wr) := ⟨B0.out.grown HS.out.gr B0.out.size (fun k hk => by cases hk; omega)⟩
    by_cases hlt : k < c.vars.length
    · obtain ⟨_, A, c', e, _, _, q1⟩ := HC.out.vars
      cases e
      obtain ⟨b1, o1, rfl, p1⟩ := q1 (by omega)
      have d0 : wr.cell? ⟨b1, o1 + k * 4, none⟩ = some (.string c.vars[k].name) := cell_below HB.out _ _ (p1 k hlt 0 _ rfl)
      have d1 : wr.cell? ⟨b1, o1 + k * 4 + 1, none⟩ = some (.int .u8 c.vars[k].cls) := cell_below HB.out _ _ (p1 k hlt 1 _ rfl)
      have d2 : wr.cell? ⟨b1, o1 + k * 4 + 2, none⟩ = some (.int .u8 c.vars[k].ty) := cell_below HB.out _ _ (p1 k hlt 2 _ rfl)
      have d3 : wr.cell? ⟨b1, o1 + k * 4 + 3, none⟩ = some (.int .i64 c.vars[k].first) := cell_below HB.out _ _ (p1 k hlt 3 _ rfl)
      have i1 : (k : Int) < (c.vars.length : Int) := by omega
      have NX : Fact (k + 1 ≤ c.vars.length) := ⟨hlt⟩
      have HT := Fact.mk (map_take_succ (·.first) c.vars hlt)
      have HN : Fact (((c.vars.take k).map (·.first)).length ≤ 1000) := ⟨by have := HL.out.1; simp; omega⟩
      clear q1 p1
      generalize c.vars[k] = v at d0 d1 d2 d3 HT
      generalize (c.vars.take k).map (·.first) = os at HS HT HN
      obtain ⟨b4, r4, z4⟩ := one_block wr (.cells #[.string v.name, .int .u8 v.cls, .int .u8 v.ty, .int .i64 v.first] 43)
      have HS5 := Fact.mk (HS.out.below b4)
      have z4' := z4
      obtain ⟨AV, nV, cV, rfl⟩ := HS.out.oV.slice
      go_upto_region 5 with (fail)
      clear d0 d1 d2 d3
      generalize wr.alloc (.cells #[.string v.name, .int .u8 v.cls, .int .u8 v.ty, .int .i64 v.first] 43) = w5 at *
      have d3 : w5.cell? ⟨wr.heap.size, 3, none⟩ = some (.int .i64 v.first) := cell_of_row _ _ 3 _ _ _ r4
      have cV0 : w5.cell? ⟨w.heap.size + 1 + 1, 0, none⟩ = some (.slice AV nV cV) := cell_of_row _ _ 0 _ _ _ HS5.out.row
      have lG : w.heap.size + 1 + 1 < w5.heap.size := (Array.getElem?_eq_some_iff.1 HS5.out.row).1
      clear b4 r4 z4 HB z4'
      go_wp2_with (at_builtin; refine wpList_pushR rfl _ _ 31 rfl w0.heap.size 2 i0 (.int .i64 0) 1 8 Try.underlying31 hi hz0 hz1 hz2 rfl (by decide) (by decide) oneI64 _ os rfl HS5.out.oV v.first rfl rfl (oneI64_one _) (by have := HN.out; omega) HS5.out.gr.size ?_)
      intro v' W' ho' hr'
      obtain ⟨A', n', q', rfl⟩ := ho'.slice
      obtain ⟨rG, HS6⟩ := HS5.out.pushV hr' ho'
      have z0 : W'.cell? ⟨w.heap.size + 1 + 1, 0, none⟩ = some (.slice AV nV cV) := cell_of_row _ _ 0 _ _ _ rG
      have f0 := frozen_of_row _ _ 0 _ _ rG
      have HS7 := Fact.mk HS6
      clear ho' hr' rG HS6 d3 cV0
      go_wp2_with fail
      go_roundw
      case rel => exact ⟨k + 1, _, NX.out, by go_num, ⟨by rw [HT.out]; exact HS7.out⟩⟩
      case measure => simp [intOf]; omega
    · obtain rfl : k = c.vars.length := by omega
      rw [List.take_length] at HS
      have HV := Fact.mk HS.out
      have kB : wr.cell? ⟨w.heap.size, 2, none⟩ = some (.slice A2 c.blocks.length c2) := cell_of_row _ _ 2 _ _ _ ((HS.out.gr.block w.heap.size (by omega) (fun e => by injection e with e; omega)).trans R1.out)
      have F1 : Fact (FrSt w0 wr (w.heap.size + 1 + 1) (c.vars.map (·.first)) ((c.blocks.take 0).map newB) V (.slice none 0 0)) := ⟨HS.out⟩
      clear HS HB HV
      go_wp2_with fail
      go_loopw [28] (fun i wr2 => ∃ (k : Nat) (B : Value), k ≤ c.blocks.length ∧ i = .int .i64 k ∧ Fact (FrSt w0 wr2 (w.heap.size + 1 + 1) (c.vars.map (·.first)) ((c.blocks.take k).map newB) V B)) (fun i _ => c.blocks.length - (intOf i).toNat)
      case atStart => exact ⟨0, _, Nat.zero_le _, rfl, F1⟩
      case round =>
        obtain ⟨k, B, hk, rfl, HS⟩ := hrel
        have HB : Fact (Below w.heap.size w wr) := ⟨B0.out.grown HS.out.gr B0.out.size (fun k hk => by cases hk; omega)⟩
        by_cases hlt : k < c.blocks.length
        · obtain ⟨_, A, c', e, _, _, q1⟩ := HC.out.blocks
          cases e
          obtain ⟨b1, o1, rfl, p1⟩ := q1 (by omega)
          have d0 : wr.cell? ⟨b1, o1 + k, none⟩ = some (.int .u8 c.blocks[k]) := cell_below HB.out _ _ (by
            have := p1 k hlt 0 _ rfl
            rwa [show o1 + k * 1 + 0 = o1 + k by omega] at this)
          have i1 : (k : Int) < (c.blocks.length : Int) := by omega
          have NX : Fact (k + 1 ≤ c.blocks.length) := ⟨hlt⟩
          have HT := Fact.mk (map_take_succ newB c.blocks hlt)
          have HN : Fact (((c.blocks.take k).map newB).length ≤ 1000) := ⟨by have := HL.out.2; simp; omega⟩
          obtain ⟨q0, q2⟩ := HK.out c.blocks[k] (List.getElem_mem hlt)
          have NW := Fact.mk (fun W => new_any c.blocks[k] q0 q2 W)
          unfold vBlk at NW
          clear q1 p1 q0 q2
          generalize c.blocks[k] = kd at d0 HT NW
          generalize (c.blocks.take k).map newB = os at HS HT HN
          go_wp2_with fail
          refine (NW.out _).mono ?_
          rintro e W1 ⟨rfl, hb1⟩
          have HS1 := Fact.mk (HS.out.below hb1)
          obtain ⟨bb, hbb⟩ : ∃ bb, newB kd = bb := ⟨_, rfl⟩
          rw [hbb] at HT
          rw [hbb]
          obtain ⟨b4, r4, z4⟩ := one_block W1 (.cells #[.int .u8 bb.kind, .bool bb.w0, .bool bb.w1, .bool bb.ran, .bool bb.going, .int .i64 bb.frm, .int .i64 bb.et, .int .i64 bb.cv, .bool bb.q, .bool bb.p] 67)
          have HS5 := Fact.mk (HS1.out.below b4)
          obtain ⟨AV, nV, cV, rfl⟩ := HS.out.oB.slice
          clear hb1 hbb d0 NW
          go_upto_region 11 with (fail)
          generalize W1.alloc (.cells #[.int .u8 bb.kind, .bool bb.w0, .bool bb.w1, .bool bb.ran, .bool bb.going, .int .i64 bb.frm, .int .i64 bb.et, .int .i64 bb.cv, .bool bb.q, .bool bb.p] 67) = w5 at *
          obtain ⟨e0, e1, e2, e3, e4, e5, e6, e7, e8, e9, -⟩ := row10 r4
          have cV0 : w5.cell? ⟨w.heap.size + 1 + 1, 1, none⟩ = some (.slice AV nV cV) := cell_of_row _ _ 1 _ _ _ HS5.out.row
          have lG : w.heap.size + 1 + 1 < w5.heap.size := (Array.getElem?_eq_some_iff.1 HS5.out.row).1
          clear b4 r4 z4 HB
          go_wp2_with (at_builtin; refine wpList_pushR rfl _ _ 32 rfl w0.heap.size 67 ib (.agg #[.int .u8 0, .bool false, .bool false, .bool false, .bool false, .int .i64 0, .int .i64 0, .int .i64 0, .bool false, .bool false]) 10 40 Try.underlying32 hib hb0 hb1 hb2 rfl (by decide) (by decide) encBlk _ os rfl HS5.out.oB bb rfl rfl (encBlk_one _) (by have := HN.out; omega) HS5.out.gr.size ?_)
          intro v' W' ho' hr'
          obtain ⟨A', n', q', rfl⟩ := ho'.slice
          obtain ⟨rG, HS6⟩ := HS5.out.pushB hr' ho'
          have z0 : W'.cell? ⟨w.heap.size + 1 + 1, 1, none⟩ = some (.slice AV nV cV) := cell_of_row _ _ 1 _ _ _ rG
          have f0 := frozen_of_row _ _ 1 _ _ rG
          have HS7 := Fact.mk HS6
          clear ho' hr' rG HS6 cV0 e0 e1 e2 e3 e4 e5 e6 e7 e8 e9
          go_wp2_with fail
          go_roundw
          case rel => exact ⟨k + 1, _, NX.out, by go_num, ⟨by rw [HT.out]; exact HS7.out⟩⟩
          case measure => simp [intOf]; omega
        · obtain rfl : k = c.blocks.length := by omega
          rw [List.take_length] at HS
          obtain ⟨AV, nV, cV, rfl⟩ := HS.out.oV.slice
          obtain ⟨AB, nB, cB, rfl⟩ := HS.out.oB.slice
          have rR := (HS.out.gr.block (w.heap.size + 1) (by omega) (fun e => by injection e with e; omega)).trans R2.out
          have g0 : wr.cell? ⟨w.heap.size + 1 + 1, 0, none⟩ = some (.slice AV nV cV) := cell_of_row _ _ 0 _ _ _ HS.out.row
          have g1 : wr.cell? ⟨w.heap.size + 1 + 1, 1, none⟩ = some (.slice AB nB cB) := cell_of_row _ _ 1 _ _ _ HS.out.row
          have u0 : wr.cell? ⟨w.heap.size + 1, 0, none⟩ = some (.slice none 0 0) := cell_of_row _ _ 0 _ _ _ rR
          have u1 : wr.cell? ⟨w.heap.size + 1, 1, none⟩ = some (.slice none 0 0) := cell_of_row _ _ 1 _ _ _ rR
          have v0 := frozen_of_row _ _ 0 _ _ rR
          have v1 := frozen_of_row _ _ 1 _ _ rR
          have s0 := set2_0 (u := .slice AV nV cV) rR
          have s1 := Fact.mk (set2_1 (u := .slice AB nB cB) s0)
          have oV := Fact.mk ((HS.out.oV.set rR (by decide) 0 (.slice AV nV cV)).set s0 (by decide) 1 (.slice AB nB cB))
          have oB := Fact.mk ((HS.out.oB.set rR (by decide) 0 (.slice AV nV cV)).set s0 (by decide) 1 (.slice AB nB cB))
          have BF := Fact.mk ((HB.out.setCell (p := ⟨w.heap.size + 1, 0, none⟩) (Nat.le_succ _) (.slice AV nV cV)).setCell (p := ⟨w.heap.size + 1, 1, none⟩) (Nat.le_succ _) (.slice AB nB cB))
          clear rR s0 HB
          go_wp2
          exact bodyPost_ret (res_cellP Try.results50 _ _ (w.heap.size + 1) rfl s1.out Try.underlying34 rfl Try.sizePlant) rfl ⟨_, _, rfl, ⟨oV.out.lower B0.out.size, oB.out.lower B0.out.size⟩, BF.out⟩
end Go.Proofs.Ytiogpainajokkaa

namespace Go.Proofs.Ytiogpainajokkaa
open Go.RowKit
/-- What New answers. -/
def newP (c : GCode) (b : Int) : GPlant × Int := if checkB c b = 0 then (firstB c, 0) else (⟨[], []⟩, checkB c b)
def PlErr (w : World) (r : GPlant × Int) (e : Ending) (w' : World) : Prop := ∃ V B, e = .returned (.tuple #[.agg #[V, B], .int .i64 r.2]) ∧ PlOwn w.heap.size w' r.1 V B ∧ Below w.heap.size w w'
theorem check_spots {c : GCode} {b : Int} (h : checkB c b = 0) : (spotsB c).2.2 = 0 := by
  unfold checkB at h
  by_cases h0 : (spotsB c).2.2 = 0
  · exact h0
  · rw [if_neg h0] at h; exact h
theorem blk_kinds {c : GCode} (h : rightB c = true) : ∀ k ∈ c.blocks, 1 ≤ k ∧ k ≤ 11 := by
  intro k hk
  obtain ⟨i, hi, rfl⟩ := List.getElem_of_mem hk
  exact (right_parts h).2.2.2.2.2.2.1 i hi
set_option maxHeartbeats 2000000 in
set_option maxRecDepth 100000 in
theorem snew_any (c : GCode) (hw : c.Wf) (hn : (c.ins.length : Int) < 9223372036854775807) (vs bs is : Value) (bud : Int) (w : World) (h : CodeRd w c vs bs is) :
    Calls Try.prog 21 #[.agg #[.string c.name, vs, bs, is], .int .i64 bud] w (PlErr w (newP c bud)) := by
  obtain ⟨A1, c1, rfl⟩ : ∃ A c', vs = .slice A c.vars.length c' := by obtain ⟨_, A, c', h, _⟩ := h.vars; exact ⟨A, c', h⟩
  obtain ⟨A2, c2, rfl⟩ : ∃ A c', bs = .slice A c.blocks.length c' := by obtain ⟨_, A, c', h, _⟩ := h.blocks; exact ⟨A, c', h⟩
  obtain ⟨A3, c3, rfl⟩ : ∃ A c', is = .slice A c.ins.length c' := by obtain ⟨_, A, c', h, _⟩ := h.ins; exact ⟨A, c', h⟩
  have TB := two_blocks w (.cells #[.string c.name, .slice A1 c.vars.length c1, .slice A2 c.blocks.length c2, .slice A3 c.ins.length c3] 26) (.cells #[.slice none 0 0, .slice none 0 0] 34)
  have B2 := Fact.mk TB.1
  have R2 := Fact.mk TB.2.1
  have R3 := Fact.mk TB.2.2.1
  have Z2 := Fact.mk TB.2.2.2
  have CK := Fact.mk (fun W (hW : Below w.heap.size w W) => check_any c hw hn _ _ _ bud W (h.below hW))
  have FI := Fact.mk (fun W (hW : Below w.heap.size w W) (hr : rightB c = true) => first_any c _ _ _ W (h.below hW) (by have := (right_parts hr).2.1; omega) (by have := (right_parts hr).2.2.1; omega) (blk_kinds hr))
  clear TB h hw hn
  obtain ⟨er, her⟩ : ∃ er, checkB c bud = er := ⟨_, rfl⟩
  rw [her] at CK
  have HN : Fact (newP c bud = if er = 0 then (firstB c, 0) else (⟨[], []⟩, er)) := ⟨by unfold newP; rw [her]⟩
  obtain ⟨rr, hrr⟩ : ∃ rr, newP c bud = rr := ⟨_, rfl⟩
  rw [hrr]
  rw [hrr] at HN
  clear hrr
  have HE := Fact.mk her
  clear her
  go_enter Try.func21, Try.ntmps21
  go_upto_region 1 with (fail)
  generalize (w.alloc (.cells #[.string c.name, .slice A1 c.vars.length c1, .slice A2 c.blocks.length c2, .slice A3 c.ins.length c3] 26)).alloc (.cells #[.slice none 0 0, .slice none 0 0] 34) = w2 at *
  obtain ⟨k0, k1, k2, k3⟩ : w2.cell? ⟨w.heap.size, 0, none⟩ = some (.string c.name) ∧ w2.cell? ⟨w.heap.size, 1, none⟩ = some (.slice A1 c.vars.length c1) ∧ w2.cell? ⟨w.heap.size, 2, none⟩ = some (.slice A2 c.blocks.length c2) ∧ w2.cell? ⟨w.heap.size, 3, none⟩ = some (.slice A3 c.ins.length c3) := ⟨cell_of_row _ _ 0 _ _ _ R2.out, cell_of_row _ _ 1 _ _ _ R2.out, cell_of_row _ _ 2 _ _ _ R2.out, cell_of_row _ _ 3 _ _ _ R2.out⟩
  have l1 : w.heap.size + 1 < w2.heap.size := by rw [Z2.out]; omega
  go_wp2_with fail
  refine (CK.out _ B2.out).mono ?_
  rintro e W1 ⟨rfl, hb1⟩
  have B3 := Fact.mk (B2.out.trans (hb1.mono B2.out.size))
  have R4 := Fact.mk ((hb1.block _ l1).trans R3.out)
  have l2 : w.heap.size + 1 < W1.heap.size := Nat.lt_of_lt_of_le l1 hb1.size
  replace k0 := cell_below hb1 _ _ k0
  replace k1 := cell_below hb1 _ _ k1
  replace k2 := cell_below hb1 _ _ k2
  replace k3 := cell_below hb1 _ _ k3
  clear hb1 CK B2 R2 R3 Z2 l1
  by_cases h0 : er = 0
  · subst h0
    obtain rfl : (firstB c, 0) = rr := by rw [HN.out, if_pos rfl]
    go_wp2_with fail
    refine (FI.out _ B3.out (spots_right (check_spots HE.out))).mono ?_
    rintro e W2 ⟨V, B, rfl, ho, hb2⟩
    obtain ⟨AV, nV, cV, rfl⟩ := ho.v.slice
    obtain ⟨AB, nB, cB, rfl⟩ := ho.b.slice
    have rR := (hb2.block _ l2).trans R4.out
    have u0 : W2.cell? ⟨w.heap.size + 1, 0, none⟩ = some (.slice none 0 0) := cell_of_row _ _ 0 _ _ _ rR
    have u1 : W2.cell? ⟨w.heap.size + 1, 1, none⟩ = some (.slice none 0 0) := cell_of_row _ _ 1 _ _ _ rR
    have v0 := frozen_of_row _ _ 0 _ _ rR
    have v1 := frozen_of_row _ _ 1 _ _ rR
    have l3 : w.heap.size + 1 < W2.heap.size := Nat.lt_of_lt_of_le l2 hb2.size
    have s0 := set2_0 (u := .slice AV nV cV) rR
    have s1 := Fact.mk (set2_1 (u := .slice AB nB cB) s0)
    have oV := Fact.mk ((ho.v.set rR (by decide) 0 (.slice AV nV cV)).set s0 (by decide) 1 (.slice AB nB cB))
    have oB := Fact.mk ((ho.b.set rR (by decide) 0 (.slice AV nV cV)).set s0 (by decide) 1 (.slice AB nB cB))
    have BF := Fact.mk (((B3.out.trans (hb2.mono B3.out.size)).setCell (p := ⟨w.heap.size + 1, 0, none⟩) (Nat.le_succ _) (.slice AV nV cV)).setCell (p := ⟨w.heap.size + 1, 1, none⟩) (Nat.le_succ _) (.slice AB nB cB))
    clear rR s0 hb2 ho k0 k1 k2 k3 R4
    go_wp2
    exact bodyPost_ret (res_cell_tmp Try.results21 _ _ (w.heap.size + 1) rfl s1.out Try.underlying34 rfl Try.sizePlant) rfl ⟨_, _, rfl, ⟨oV.out.lower B3.out.size, oB.out.lower B3.out.size⟩, BF.out⟩
  · have hb : (er != 0) = true := bne_iff_ne.2 h0
    obtain rfl : (⟨[], []⟩, er) = rr := by rw [HN.out, if_neg h0]
    have rR := R4.out
    have u0 : W1.cell? ⟨w.heap.size + 1, 0, none⟩ = some (.slice none 0 0) := cell_of_row _ _ 0 _ _ _ rR
    have u1 : W1.cell? ⟨w.heap.size + 1, 1, none⟩ = some (.slice none 0 0) := cell_of_row _ _ 1 _ _ _ rR
    have v0 := frozen_of_row _ _ 0 _ _ rR
    have v1 := frozen_of_row _ _ 1 _ _ rR
    have s0 := set2_0 (u := .slice none 0 0) rR
    have s1 := Fact.mk (set2_1 (u := .slice none 0 0) s0)
    have BF := Fact.mk ((B3.out.setCell (p := ⟨w.heap.size + 1, 0, none⟩) (Nat.le_succ _) (.slice none 0 0)).setCell (p := ⟨w.heap.size + 1, 1, none⟩) (Nat.le_succ _) (.slice none 0 0))
    clear rR s0 k0 k1 k2 k3 R4 h0
    go_wp2
    exact bodyPost_ret (res_cell_tmp Try.results21 _ _ (w.heap.size + 1) rfl s1.out Try.underlying34 rfl Try.sizePlant) rfl ⟨_, _, rfl, ⟨Own.nil _ _ _ _ _, Own.nil _ _ _ _ _⟩, BF.out⟩
end Go.Proofs.Ytiogpainajokkaa

