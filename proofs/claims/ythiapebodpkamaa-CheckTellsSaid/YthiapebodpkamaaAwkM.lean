/- awake of layer 14 answers true. -/
import Derived.Test.YthiapebodpkamaaSteps
import Derived.Laws.ResultCell
namespace Go.Proofs.Ythiapebodpkamaa
open Go.RowKit
/-- A program of instructions alone. -/
def pg (l : List GIns) : GCode := ⟨⟨#[112]⟩, [], [], l⟩
def vPg (v : Value) : Value := .agg #[.string ⟨#[112]⟩, .slice none 0 0, .slice none 0 0, v]
theorem pg_rd {w : World} {v : Value} {l : List GIns} (h : Rd encIns 4 w v l) : CodeRd w (pg l) (.slice none 0 0) (.slice none 0 0) v := ⟨rd_nil _ _ _, rd_nil _ _ _, h⟩
theorem rd_ins {w : World} {m : Nat} (hm : m = w.heap.size) (l : List GIns) (T : TypeId) (h : l.length ≤ 9223372036854775807) : Rd encIns 4 (w.alloc (.cells (l.flatMap encIns).toArray T)) (.slice (some ⟨m, 0, none⟩) l.length l.length) l := by
  subst hm
  exact rd_new encIns 4 encIns_len w l T h
theorem pg_wf {l : List GIns} (h : ∀ i ∈ l, i.Wf) : (pg l).Wf := ⟨fun _ h => absurd h (by simp [pg]), fun _ h => absurd h (by simp [pg]), h⟩
theorem Try.sizeCode : (Try.prog.info? 32).map (·.size) = some 4 := by kernel_rfl
theorem res_cell1 {P : Program} {fn : Func} {p : Tmp} {ty : TypeId} (h : fn.results = #[.cell p ty]) (tmps : Array Value) (w : World) (g : Nat) {t : TypeId} {cs : Array Value} {fr : Nat × Nat} {d : TypeDesc}
    (hp : tmps.getD p undef = .pointer (some ⟨g, 0, none⟩)) (hg : w.heap[g]? = some (.cells cs t fr))
    (hu : P.underlying ty = some d) (hd : (match d with | .struct _ | .array _ _ => true | _ => false) = true) (hi : (P.info? ty).map (·.size) = some cs.size) :
    (results fn tmps).run P w = .ok (.agg cs) w := by
  have hp' : tmps[p]?.getD undef = .pointer (some ⟨g, 0, none⟩) := by rw [← Array.getD_eq_getD_getElem?]; exact hp
  simp [results, h, hp', asAddr, run_loadVar_row w g t ty cs fr d hg hu hd hi]
set_option maxRecDepth 100000 in
set_option maxHeartbeats 1000000 in
theorem prog_any (A : Option Addr) (n c : Nat) (w : World) : Calls Try.prog 27 #[.slice A n c] w fun e w' => e = .returned (vPg (.slice A n c)) ∧ Below w.heap.size w w' := by
  unfold vPg
  go_enter Try.func27, Try.ntmps27
  go_wp2
  exact bodyPost_ret (res_cell1 Try.results27 _ _ w.heap.size rfl (heap_alloc_new w _) Try.underlying32 rfl Try.sizeCode) rfl ⟨rfl, (one_block w _).1⟩
theorem small_wf {l : List GIns} (h : (l.all fun i => decide (0 ≤ i.op) && decide (i.op ≤ 255) && decide (0 ≤ i.t) && decide (i.t ≤ 255) && decide (0 ≤ i.a) && decide (i.a ≤ 10000) && decide (-10000 ≤ i.n) && decide (i.n ≤ 10000)) = true) : (pg l).Wf := by
  refine pg_wf fun i hi => ?_
  have := List.all_eq_true.1 h i hi
  simp only [Bool.and_eq_true, decide_eq_true_eq] at this
  exact ⟨by omega, by omega, by omega, by omega⟩
theorem aw_0 : (spotsB (pg [(⟨1, 1, 0, 1⟩ : GIns), (⟨22, 0, 0, 0⟩ : GIns)])).2.1 = 1 ∧ (spotsB (pg [(⟨1, 1, 0, 1⟩ : GIns), (⟨22, 0, 0, 0⟩ : GIns)])).2.2 = 140 := ⟨by kernel_rfl, by kernel_rfl⟩
theorem aw_1 : (spotsB (pg [(⟨18, 0, 0, 0⟩ : GIns)])).2.1 = 0 ∧ (spotsB (pg [(⟨18, 0, 0, 0⟩ : GIns)])).2.2 = 141 := ⟨by kernel_rfl, by kernel_rfl⟩
theorem aw_2 : stepsB (pg [(⟨1, 1, 0, 1⟩ : GIns), (⟨19, 0, 3, 0⟩ : GIns), (⟨22, 0, 0, 0⟩ : GIns), (⟨22, 0, 0, 0⟩ : GIns)]) = 3 := by kernel_rfl
theorem aw_3 : stepsB (pg [(⟨1, 1, 0, 1⟩ : GIns), (⟨17, 0, 0, 0⟩ : GIns)]) = 2 := by kernel_rfl
theorem aw_4 : checkB (pg [(⟨1, 1, 0, 1⟩ : GIns), (⟨17, 0, 0, 0⟩ : GIns)]) 1 = 142 := by kernel_rfl
theorem spots_slice {base : Nat} {w : World} {v : Value} {ss : List GSpot} (h : SpotsRd base w v ss) : ∃ A n c, v = .slice A n c := by
  rcases h with ⟨h, _⟩ | ⟨S, _, h, _⟩
  · exact ⟨_, _, _, h⟩
  · exact ⟨_, _, _, h⟩
theorem aw_cells {w W : World} (h : Below (((w.alloc (Obj.cells #[.int .u8 1, .int .u8 1, .int .i64 0, .int .i64 1] 38)).alloc (Obj.cells #[.int .u8 22, .int .u8 0, .int .i64 0, .int .i64 0] 38))).heap.size (((w.alloc (Obj.cells #[.int .u8 1, .int .u8 1, .int .i64 0, .int .i64 1] 38)).alloc (Obj.cells #[.int .u8 22, .int .u8 0, .int .i64 0, .int .i64 0] 38))) W) : W.cell? ⟨w.heap.size, 0, none⟩ = some (.int .u8 1) ∧ W.cell? ⟨w.heap.size, 1, none⟩ = some (.int .u8 1) ∧ W.cell? ⟨w.heap.size, 2, none⟩ = some (.int .i64 0) ∧ W.cell? ⟨w.heap.size, 3, none⟩ = some (.int .i64 1) ∧ W.cell? ⟨w.heap.size + 1, 0, none⟩ = some (.int .u8 22) ∧ W.cell? ⟨w.heap.size + 1, 1, none⟩ = some (.int .u8 0) ∧ W.cell? ⟨w.heap.size + 1, 2, none⟩ = some (.int .i64 0) ∧ W.cell? ⟨w.heap.size + 1, 3, none⟩ = some (.int .i64 0) := by
  obtain ⟨_, r1, r2, sz⟩ := two_blocks w (Obj.cells #[.int .u8 1, .int .u8 1, .int .i64 0, .int .i64 1] 38) (Obj.cells #[.int .u8 22, .int .u8 0, .int .i64 0, .int .i64 0] 38)
  have a := (h.block w.heap.size (by rw [sz]; omega)).trans r1
  have b := (h.block (w.heap.size + 1) (by rw [sz]; omega)).trans r2
  refine ⟨?_, ?_, ?_, ?_, ?_, ?_, ?_, ?_⟩
  · rw [cell_of_row _ _ 0 _ _ _ a]; rfl
  · rw [cell_of_row _ _ 1 _ _ _ a]; rfl
  · rw [cell_of_row _ _ 2 _ _ _ a]; rfl
  · rw [cell_of_row _ _ 3 _ _ _ a]; rfl
  · rw [cell_of_row _ _ 0 _ _ _ b]; rfl
  · rw [cell_of_row _ _ 1 _ _ _ b]; rfl
  · rw [cell_of_row _ _ 2 _ _ _ b]; rfl
  · rw [cell_of_row _ _ 3 _ _ _ b]; rfl
set_option maxRecDepth 100000 in
set_option maxHeartbeats 4000000 in
theorem awk14_any (w : World) : Calls Try.prog 19 #[] w fun e w' => e = .returned (.bool true) ∧ Below w.heap.size w w' := by
  obtain ⟨p0, p1, p2, p3, q0, q1, q2, q3⟩ := aw_cells (w := w) (Below.refl _ _)
  go_enter Try.func19, Try.ntmps19
  go_wp2_with fail
  refine (prog_any _ _ _ _).mono ?_
  rintro e V0 ⟨rfl, hb⟩
  have RD := Fact.mk ((rd_ins (w := (((w.alloc (Obj.cells #[.int .u8 1, .int .u8 1, .int .i64 0, .int .i64 1] 38)).alloc (Obj.cells #[.int .u8 22, .int .u8 0, .int .i64 0, .int .i64 0] 38)))) (m := w.heap.size + 1 + 1) (by simp) [(⟨1, 1, 0, 1⟩ : GIns), (⟨22, 0, 0, 0⟩ : GIns)] 38 (by decide)).below hb)
  have HB0 : Fact (Below (((w.alloc (Obj.cells #[.int .u8 1, .int .u8 1, .int .i64 0, .int .i64 1] 38)).alloc (Obj.cells #[.int .u8 22, .int .u8 0, .int .i64 0, .int .i64 0] 38))).heap.size (((w.alloc (Obj.cells #[.int .u8 1, .int .u8 1, .int .i64 0, .int .i64 1] 38)).alloc (Obj.cells #[.int .u8 22, .int .u8 0, .int .i64 0, .int .i64 0] 38))) V0) := ⟨((Below.refl _ _).alloc (Nat.le_refl _) _).trans (hb.mono (by first | (simp; done) | exact Nat.le_trans (Nat.le_refl _) (by simp)))⟩
  clear hb p0 p1 p2 p3 q0 q1 q2 q3
  obtain ⟨p0, p1, p2, p3, q0, q1, q2, q3⟩ := aw_cells HB0.out
  unfold vPg
  go_wp2_with fail
  refine (spots_any (pg [(⟨1, 1, 0, 1⟩ : GIns), (⟨22, 0, 0, 0⟩ : GIns)]) (small_wf (by kernel_rfl)) (by simp [pg]) _ _ _ _ (pg_rd RD.out)).mono ?_
  rintro e X0 ⟨v0, rfl, hsp, hb⟩
  rw [aw_0.1, aw_0.2]
  obtain ⟨E0, m0, c0, rfl⟩ := spots_slice hsp
  have HB1 := Fact.mk (HB0.out.trans (hb.mono HB0.out.size))
  clear hb p0 p1 p2 p3 q0 q1 q2 q3 hsp
  obtain ⟨p0, p1, p2, p3, q0, q1, q2, q3⟩ := aw_cells HB1.out
  go_wp2_with fail
  refine (prog_any _ _ _ _).mono ?_
  rintro e V1 ⟨rfl, hb⟩
  have RD := Fact.mk ((rd_ins (w := X0) rfl [(⟨18, 0, 0, 0⟩ : GIns)] 38 (by decide)).below hb)
  have HB2 : Fact (Below (((w.alloc (Obj.cells #[.int .u8 1, .int .u8 1, .int .i64 0, .int .i64 1] 38)).alloc (Obj.cells #[.int .u8 22, .int .u8 0, .int .i64 0, .int .i64 0] 38))).heap.size (((w.alloc (Obj.cells #[.int .u8 1, .int .u8 1, .int .i64 0, .int .i64 1] 38)).alloc (Obj.cells #[.int .u8 22, .int .u8 0, .int .i64 0, .int .i64 0] 38))) V1) := ⟨(HB1.out.alloc HB1.out.size _).trans (hb.mono (by first | (simp; done) | exact Nat.le_trans HB1.out.size (by simp)))⟩
  clear hb p0 p1 p2 p3 q0 q1 q2 q3
  obtain ⟨p0, p1, p2, p3, q0, q1, q2, q3⟩ := aw_cells HB2.out
  unfold vPg
  go_wp2_with fail
  refine (spots_any (pg [(⟨18, 0, 0, 0⟩ : GIns)]) (small_wf (by kernel_rfl)) (by simp [pg]) _ _ _ _ (pg_rd RD.out)).mono ?_
  rintro e X1 ⟨v1, rfl, hsp, hb⟩
  rw [aw_1.1, aw_1.2]
  obtain ⟨E1, m1, c1, rfl⟩ := spots_slice hsp
  have HB3 := Fact.mk (HB2.out.trans (hb.mono HB2.out.size))
  clear hb p0 p1 p2 p3 q0 q1 q2 q3 hsp
  obtain ⟨p0, p1, p2, p3, q0, q1, q2, q3⟩ := aw_cells HB3.out
  go_wp2_with fail
  refine (prog_any _ _ _ _).mono ?_
  rintro e V2 ⟨rfl, hb⟩
  have RD := Fact.mk ((rd_ins (w := X1) rfl [(⟨1, 1, 0, 1⟩ : GIns), (⟨19, 0, 3, 0⟩ : GIns), (⟨22, 0, 0, 0⟩ : GIns), (⟨22, 0, 0, 0⟩ : GIns)] 38 (by decide)).below hb)
  have HB4 : Fact (Below (((w.alloc (Obj.cells #[.int .u8 1, .int .u8 1, .int .i64 0, .int .i64 1] 38)).alloc (Obj.cells #[.int .u8 22, .int .u8 0, .int .i64 0, .int .i64 0] 38))).heap.size (((w.alloc (Obj.cells #[.int .u8 1, .int .u8 1, .int .i64 0, .int .i64 1] 38)).alloc (Obj.cells #[.int .u8 22, .int .u8 0, .int .i64 0, .int .i64 0] 38))) V2) := ⟨(HB3.out.alloc HB3.out.size _).trans (hb.mono (by first | (simp; done) | exact Nat.le_trans HB3.out.size (by simp)))⟩
  clear hb p0 p1 p2 p3 q0 q1 q2 q3
  obtain ⟨p0, p1, p2, p3, q0, q1, q2, q3⟩ := aw_cells HB4.out
  unfold vPg
  go_wp2_with fail
  refine (steps_any (pg [(⟨1, 1, 0, 1⟩ : GIns), (⟨19, 0, 3, 0⟩ : GIns), (⟨22, 0, 0, 0⟩ : GIns), (⟨22, 0, 0, 0⟩ : GIns)]) (small_wf (by kernel_rfl)) (by simp [pg]) _ _ _ _ (pg_rd RD.out)).mono ?_
  rintro e X2 ⟨rfl, hb⟩
  rw [aw_2]
  have HB5 := Fact.mk (HB4.out.trans (hb.mono HB4.out.size))
  clear hb p0 p1 p2 p3 q0 q1 q2 q3
  obtain ⟨p0, p1, p2, p3, q0, q1, q2, q3⟩ := aw_cells HB5.out
  go_wp2_with fail
  refine (prog_any _ _ _ _).mono ?_
  rintro e V3 ⟨rfl, hb⟩
  have RD := Fact.mk ((rd_ins (w := X2) rfl [(⟨1, 1, 0, 1⟩ : GIns), (⟨17, 0, 0, 0⟩ : GIns)] 38 (by decide)).below hb)
  have HB6 : Fact (Below (((w.alloc (Obj.cells #[.int .u8 1, .int .u8 1, .int .i64 0, .int .i64 1] 38)).alloc (Obj.cells #[.int .u8 22, .int .u8 0, .int .i64 0, .int .i64 0] 38))).heap.size (((w.alloc (Obj.cells #[.int .u8 1, .int .u8 1, .int .i64 0, .int .i64 1] 38)).alloc (Obj.cells #[.int .u8 22, .int .u8 0, .int .i64 0, .int .i64 0] 38))) V3) := ⟨(HB5.out.alloc HB5.out.size _).trans (hb.mono (by first | (simp; done) | exact Nat.le_trans HB5.out.size (by simp)))⟩
  clear hb p0 p1 p2 p3 q0 q1 q2 q3
  obtain ⟨p0, p1, p2, p3, q0, q1, q2, q3⟩ := aw_cells HB6.out
  unfold vPg
  go_wp2_with fail
  refine (steps_any (pg [(⟨1, 1, 0, 1⟩ : GIns), (⟨17, 0, 0, 0⟩ : GIns)]) (small_wf (by kernel_rfl)) (by simp [pg]) _ _ _ _ (pg_rd RD.out)).mono ?_
  rintro e X3 ⟨rfl, hb⟩
  rw [aw_3]
  have HB7 := Fact.mk (HB6.out.trans (hb.mono HB6.out.size))
  clear hb p0 p1 p2 p3 q0 q1 q2 q3
  obtain ⟨p0, p1, p2, p3, q0, q1, q2, q3⟩ := aw_cells HB7.out
  go_wp2_with fail
  refine (prog_any _ _ _ _).mono ?_
  rintro e V4 ⟨rfl, hb⟩
  have RD := Fact.mk ((rd_ins (w := X3) rfl [(⟨1, 1, 0, 1⟩ : GIns), (⟨17, 0, 0, 0⟩ : GIns)] 38 (by decide)).below hb)
  have HB8 : Fact (Below (((w.alloc (Obj.cells #[.int .u8 1, .int .u8 1, .int .i64 0, .int .i64 1] 38)).alloc (Obj.cells #[.int .u8 22, .int .u8 0, .int .i64 0, .int .i64 0] 38))).heap.size (((w.alloc (Obj.cells #[.int .u8 1, .int .u8 1, .int .i64 0, .int .i64 1] 38)).alloc (Obj.cells #[.int .u8 22, .int .u8 0, .int .i64 0, .int .i64 0] 38))) V4) := ⟨(HB7.out.alloc HB7.out.size _).trans (hb.mono (by first | (simp; done) | exact Nat.le_trans HB7.out.size (by simp)))⟩
  clear hb p0 p1 p2 p3 q0 q1 q2 q3
  obtain ⟨p0, p1, p2, p3, q0, q1, q2, q3⟩ := aw_cells HB8.out
  unfold vPg
  go_wp2_with fail
  refine (check_any (pg [(⟨1, 1, 0, 1⟩ : GIns), (⟨17, 0, 0, 0⟩ : GIns)]) (small_wf (by kernel_rfl)) (by simp [pg]) _ _ _ _ _ (pg_rd RD.out)).mono ?_
  rintro e X4 ⟨rfl, hb⟩
  rw [aw_4]
  have HB9 := Fact.mk (HB8.out.trans (hb.mono HB8.out.size))
  clear hb p0 p1 p2 p3 q0 q1 q2 q3
  obtain ⟨p0, p1, p2, p3, q0, q1, q2, q3⟩ := aw_cells HB9.out
  go_wp2
  go_ret
  exact ⟨rfl, (two_blocks w _ _).1.trans (HB9.out.mono (two_blocks w _ _).1.size)⟩
end Go.Proofs.Ythiapebodpkamaa

namespace Go.Proofs.Ythiapebodpkamaa
open Go.RowKit
def GreatPost (c : GCode) (w : World) (e : Ending) (w' : World) : Prop := ∃ g, e = .returned (.bool g) ∧ (g = false → c.vars.length ≤ 220 ∧ c.blocks.length ≤ 120 ∧ c.ins.length ≤ 2100 ∧ c.name.size ≤ 3000) ∧ Below w.heap.size w w'
set_option maxHeartbeats 1000000 in
set_option maxRecDepth 100000 in
theorem great_any (c : GCode) (vs bs is : Value) (w : World) (h : CodeRd w c vs bs is) (hn : c.name.size ≤ 9223372036854775807) (hv : ∀ x ∈ c.vars, x.name.size ≤ 9223372036854775807) :
    Calls Try.prog 17 #[.agg #[.string c.name, vs, bs, is]] w (GreatPost c w) := by
  obtain ⟨A1, c1, rfl⟩ : ∃ A c', vs = .slice A c.vars.length c' := by obtain ⟨_, A, c', h, _⟩ := h.vars; exact ⟨A, c', h⟩
  obtain ⟨A2, c2, rfl⟩ : ∃ A c', bs = .slice A c.blocks.length c' := by obtain ⟨_, A, c', h, _⟩ := h.blocks; exact ⟨A, c', h⟩
  obtain ⟨A3, c3, rfl⟩ : ∃ A c', is = .slice A c.ins.length c' := by obtain ⟨_, A, c', h, _⟩ := h.ins; exact ⟨A, c', h⟩
  have m1 := h.vars.1
  have m2 := h.blocks.1
  have m3 := h.ins.1
  have H := Fact.mk h
  have HV := Fact.mk hv
  clear h hv
  rcases (by omega : 220 < c.vars.length ∨ (c.vars.length ≤ 220 ∧ 120 < c.blocks.length) ∨ (c.vars.length ≤ 220 ∧ c.blocks.length ≤ 120 ∧ 2100 < c.ins.length) ∨ (c.vars.length ≤ 220 ∧ c.blocks.length ≤ 120 ∧ c.ins.length ≤ 2100 ∧ 3000 < c.name.size) ∨ (c.vars.length ≤ 220 ∧ c.blocks.length ≤ 120 ∧ c.ins.length ≤ 2100 ∧ c.name.size ≤ 3000)) with a1 | ⟨a1, a2⟩ | ⟨a1, a2, a3⟩ | ⟨a1, a2, a3, a4⟩ | ⟨a1, a2, a3, a4⟩
  case inr.inr.inr.inr =>
    go_enter Try.func17, Try.ntmps17
    go_wp2_with fail
    obtain ⟨b1, b2, b3⟩ := one_block w (.cells #[.string c.name, .slice A1 c.vars.length c1, .slice A2 c.blocks.length c2, .slice A3 c.ins.length c3] 32)
    generalize w.alloc (.cells #[.string c.name, .slice A1 c.vars.length c1, .slice A2 c.blocks.length c2, .slice A3 c.ins.length c3] 32) = w0 at *
    have B1 := Fact.mk b1
    have K1 : w0.cell? ⟨w.heap.size, 1, none⟩ = some (.slice A1 c.vars.length c1) := by rw [cell_of_row _ _ 1 _ _ _ b2]; rfl
    have RD := Fact.mk (H.out.vars.below b1)
    clear b1 b2 b3
    go_loopw [3, 30] (fun s i wr => ∃ (k : Nat) (m : Int), k ≤ c.vars.length ∧ i = .int .i64 k ∧ s = .int .i64 m ∧ Fact (wr = w0)) (fun _ i _ => c.vars.length - (intOf i).toNat)
    case atStart => exact ⟨0, 0, Nat.zero_le _, rfl, rfl, ⟨rfl⟩⟩
    case round =>
      obtain ⟨k, m, hk, rfl, rfl, hB⟩ := hrel
      obtain rfl := hB.out
      by_cases hlt : k < c.vars.length
      · obtain ⟨_, _, _, hv, _, _, hcell⟩ := RD.out
        obtain ⟨b, off, rfl, hcl⟩ := hcell (by omega)
        simp only [Value.slice.injEq, true_and] at hv
        obtain ⟨rfl, rfl⟩ := hv
        have q0 : wr.cell? ⟨b, off + k * 4, none⟩ = some (.string c.vars[k].name) := hcl k hlt 0 _ rfl
        have hsz := HV.out c.vars[k] (List.getElem_mem hlt)
        clear hcl hcell
        go_wp2_with fail
        go_roundw
        case rel => exact ⟨k + 1, _, by omega, by go_num, rfl, ⟨by trivial⟩⟩
        case measure => simp [intOf]; omega
      · obtain rfl : k = c.vars.length := by omega
        go_wp2_with fail
        go_ret
        exact ⟨_, rfl, fun _ => ⟨a1, a2, a3, a4⟩, B1.out⟩
  all_goals
    go_enter Try.func17, Try.ntmps17
    go_wp2_with fail
    go_ret
    exact ⟨_, rfl, (fun h => by cases h), (Below.refl _ _).alloc (Nat.le_refl _) _⟩
end Go.Proofs.Ythiapebodpkamaa

