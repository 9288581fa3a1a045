/- A new list of places. -/
import Derived.Test.YtiogpainajokkaaChkM
import Derived.Laws.MakeOwn
import Derived.Test.YtiogpainajokkaaOneM
import Derived.Test.YtiogpainajokkaaRightM
import Derived.WalkMore
import Derived.ScopeJumps
import Derived.Deep.DeepCutAuto
namespace Go.Proofs.Ytiogpainajokkaa
open Go.RowKit
theorem spot_info : ∃ i, Try.prog.info? 122 = some i ∧ i.zero = some (.agg #[.bool false, .slice none 0 0, .int .i64 0]) ∧ i.size = 3 ∧ i.bytes = 40 := by
  have h : (Try.prog.info? 122).map (fun i => (i.zero, i.size, i.bytes)) = some (some (.agg #[.bool false, .slice none 0 0, .int .i64 0]), 3, 40) := by kernel_rfl
  obtain ⟨i, h1, h2⟩ := Option.map_eq_some_iff.1 h
  simp only [Prod.mk.injEq] at h2
  exact ⟨i, h1, h2.1, h2.2.1, h2.2.2⟩
def noSpot : GSpot × Value := (⟨false, [], 0⟩, .slice none 0 0)
theorem made_sp (n : Nat) : madeCells #[.bool false, .slice none 0 0, .int .i64 0] (n * 3) = ((List.replicate n noSpot).flatMap encSp).toArray := by
  apply Array.ext
  · rw [size_madeCells, List.size_toArray, flatMap_len encSp_len, List.length_replicate]
  · intro j h1 h2
    rw [size_madeCells] at h1
    have hj : j / 3 < (List.replicate n noSpot).length := by rw [List.length_replicate]; omega
    have hlt : j % 3 < (encSp (List.replicate n noSpot)[j / 3]).length := by rw [encSp_len]; omega
    have h3 := flatMap_at encSp_len (List.replicate n noSpot) (j / 3) hj (j % 3) _ (List.getElem?_eq_getElem hlt)
    rw [show j / 3 * 3 + j % 3 = j by omega] at h3
    have e : (((List.replicate n noSpot).flatMap encSp).toArray)[j] = (encSp (List.replicate n noSpot)[j / 3])[j % 3] := by
      have := List.getElem?_eq_some_iff.1 h3
      obtain ⟨_, h4⟩ := this
      simpa using h4
    rw [e]
    simp only [List.getElem_replicate]
    have hm : (madeCells #[.bool false, .slice none 0 0, .int .i64 0] (n * 3))[j]? = some ((#[.bool false, .slice none 0 0, .int .i64 0] : Array Value)[j % 3]!) := by
      unfold madeCells
      rw [Array.getElem?_map, Array.getElem?_range, if_pos h1]
      rfl
    obtain ⟨_, hm2⟩ := Array.getElem?_eq_some_iff.1 hm
    rw [hm2]
    rcases (by omega : j % 3 = 0 ∨ j % 3 = 1 ∨ j % 3 = 2) with h | h | h
    all_goals
      simp only [h]
      rfl
def spRow (n : Nat) : Array Value := ((List.replicate n noSpot).flatMap encSp).toArray
theorem run_spots (n : Nat) (h : n ≤ 100000) (W : World) : (Instr.makeSlice 106 (.int .i64 (n : Int)) (.int .i64 (n : Int))).run Try.prog W = .ok (.slice (some ⟨W.heap.size, 0, none⟩) n n) (W.alloc (.cells (spRow n) 122)) := by
  obtain ⟨i, hi, hz0, hz1, hz2⟩ := spot_info
  have hr := run_make (P := Try.prog) W 106 122 i _ Try.underlying106 hi hz0 .i64 .i64 n n (by omega) (Int.le_refl _) (by rw [hz2]; omega) (by omega)
  rw [hr]
  simp only [Int.toNat_natCast, hz1]
  rw [show (Value.agg #[.bool false, .slice none 0 0, .int .i64 0]).cells = #[.bool false, .slice none 0 0, .int .i64 0] from rfl, made_sp]
  rfl
/-- The first place is where one begins. -/
theorem plc_new {W W' : World} {S : Nat} {n : Nat} (h : W.heap[S]? = some (.cells (spRow (n + 1)) 122 (0, 0))) (e : W'.heap[S]? = (W.setCell ⟨S, 0, none⟩ (.bool true)).heap[S]?) : Places W' S (start n) := by
  refine ⟨(⟨true, [], 0⟩, .slice none 0 0) :: List.replicate n noSpot, by simp [start, noSpot], ?_, fun x hx => ?_⟩
  · rw [e, heap_setCell_same W S 0 _ _ (.bool true) h]
    unfold spRow
    rw [List.replicate_succ, List.flatMap_cons]
    rfl
  · have hx2 : x.2 = .slice none 0 0 ∧ x.1.stack = [] := by
      rcases List.mem_cons.1 hx with rfl | hx
      · exact ⟨rfl, rfl⟩
      · obtain ⟨_, rfl⟩ := List.mem_replicate.1 hx
        exact ⟨rfl, rfl⟩
    rw [hx2.1, hx2.2]
    exact ⟨rd_nil _ _ _, fun e => by cases e⟩
end Go.Proofs.Ytiogpainajokkaa

namespace Go.Proofs.Ytiogpainajokkaa
open Go.RowKit
/-- A list of places is told. -/
def SpotsRd (base : Nat) (w : World) (v : Value) (ss : List GSpot) : Prop := (v = .slice none 0 0 ∧ ss = []) ∨ ∃ S, base ≤ S ∧ v = .slice (some ⟨S, 0, none⟩) ss.length ss.length ∧ Places w S ss
def SpotsPost (c : GCode) (w : World) (e : Ending) (w' : World) : Prop := ∃ v, e = .returned (.tuple #[v, .int .i64 ((spotsB c).2.1 : Nat), .int .i64 (spotsB c).2.2]) ∧ SpotsRd w.heap.size w' v (spotsB c).1 ∧ Below w.heap.size w w'
/-- On the way: the places so far, of a right program; the program's own row. -/
structure SpSt (w W : World) (X S : Nat) (c : GCode) (A1 A2 A3 : Option Addr) (c1 c2 c3 k : Nat) (ss : List GSpot) : Prop where
  st : ChkSt (w.alloc (.cells #[.string c.name, .slice A1 c.vars.length c1, .slice A2 c.blocks.length c2, .slice A3 c.ins.length c3] 26)) W X S c (.slice A1 c.vars.length c1) (.slice A2 c.blocks.length c2) (.slice A3 c.ins.length c3) ss
  ok : PlcOk c ss
  k1 : k ≤ c.ins.length
  right : rightB c = true
  walk : walkB c (c.ins.length + 1) 0 (start c.ins.length) = walkB c (c.ins.length + 1 - k) k ss
theorem chk_code {w W : World} {X S : Nat} {c : GCode} {A1 A2 A3 : Option Addr} {c1 c2 c3 : Nat} {ss : List GSpot} (h : ChkSt (w.alloc (.cells #[.string c.name, .slice A1 c.vars.length c1, .slice A2 c.blocks.length c2, .slice A3 c.ins.length c3] 26)) W X S c (.slice A1 c.vars.length c1) (.slice A2 c.blocks.length c2) (.slice A3 c.ins.length c3) ss) : W.heap[w.heap.size]? = some (.cells #[.string c.name, .slice A1 c.vars.length c1, .slice A2 c.blocks.length c2, .slice A3 c.ins.length c3] 26 (0, 0)) :=
  (h.bel.block w.heap.size (by simp)).trans (heap_alloc_new w _)
theorem chk_bel {w W : World} {X S : Nat} {c : GCode} {A1 A2 A3 : Option Addr} {c1 c2 c3 : Nat} {ss : List GSpot} (h : ChkSt (w.alloc (.cells #[.string c.name, .slice A1 c.vars.length c1, .slice A2 c.blocks.length c2, .slice A3 c.ins.length c3] 26)) W X S c (.slice A1 c.vars.length c1) (.slice A2 c.blocks.length c2) (.slice A3 c.ins.length c3) ss) : Below w.heap.size w W ∧ w.heap.size < S :=
  ⟨(one_block w _).1.trans (h.bel.mono (by simp)), by have := h.lo; simp at this; omega⟩
theorem SpSt.spots {w W : World} {X S : Nat} {c : GCode} {A1 A2 A3 : Option Addr} {c1 c2 c3 k : Nat} {ss : List GSpot} (h : SpSt w W X S c A1 A2 A3 c1 c2 c3 k ss) : spotsB c = walkB c (c.ins.length + 1 - k) k ss := by
  unfold spotsB
  rw [if_pos h.right]; exact h.walk
theorem walk_next {c : GCode} {n k : Nat} {ss ss' : List GSpot} (hk : k < n) (h : stepAt c ss k = (ss', 0)) : walkB c (n - k) k ss = walkB c (n - (k + 1)) (k + 1) ss' := by
  obtain ⟨f, hf⟩ : ∃ f, n - k = f + 1 := ⟨n - k - 1, by omega⟩
  rw [hf, show n - (k + 1) = f by omega, walkB, h]
  rfl
theorem SpSt.next {w W : World} {X S : Nat} {c : GCode} {A1 A2 A3 : Option Addr} {c1 c2 c3 k : Nat} {ss : List GSpot} (h : SpSt w W X S c A1 A2 A3 c1 c2 c3 k ss) (hs : stepAt c ss k = (ss, 0)) (hk : k < c.ins.length) : SpSt w W X S c A1 A2 A3 c1 c2 c3 (k + 1) ss :=
  ⟨h.st, h.ok, by omega, h.right, h.walk.trans (walk_next (by omega) hs)⟩
theorem SpSt.last {w W : World} {X S : Nat} {c : GCode} {A1 A2 A3 : Option Addr} {c1 c2 c3 k : Nat} {ss ss' : List GSpot} (h : SpSt w W X S c A1 A2 A3 c1 c2 c3 k ss) (hs : stepAt c ss k = (ss', 0)) (hk : k = c.ins.length) : spotsB c = (ss', 0, 0) := by
  rw [h.spots, show c.ins.length + 1 - k = 1 by omega, walkB, hs]
  rfl
theorem SpSt.fin {w W : World} {X S : Nat} {c : GCode} {A1 A2 A3 : Option Addr} {c1 c2 c3 : Nat} {ss : List GSpot} (h : SpSt w W X S c A1 A2 A3 c1 c2 c3 c.ins.length ss) (hs : stepAt c ss c.ins.length = (ss, 0)) : SpotsPost c w (.returned (.tuple #[.slice (some ⟨S, 0, none⟩) ss.length ss.length, .int .i64 0, .int .i64 0])) W := by
  have e := h.last hs rfl
  unfold SpotsPost
  rw [e]
  exact ⟨_, rfl, .inr ⟨S, Nat.le_of_lt (chk_bel h.st).2, rfl, h.st.pl⟩, (chk_bel h.st).1⟩
theorem SpSt.bad {w W W3 : World} {X S : Nat} {c : GCode} {A1 A2 A3 : Option Addr} {c1 c2 c3 k : Nat} {ss : List GSpot} {er : Int} (h : SpSt w W X S c A1 A2 A3 c1 c2 c3 k ss) (hs : (stepAt c ss k).2 = er) (h0 : er ≠ 0) (hb : Below w.heap.size w W3) : SpotsPost c w (.returned (.tuple #[.slice none 0 0, .int .i64 (k : Int), .int .i64 er])) W3 := by
  have e : spotsB c = ([], k, er) := by
    have := h.k1
    rw [h.spots, show c.ins.length + 1 - k = (c.ins.length - k) + 1 by omega, walkB, hs, if_neg h0]
  unfold SpotsPost
  rw [e]
  exact ⟨_, rfl, .inl ⟨rfl, rfl⟩, hb⟩
theorem SpSt.go {w W W3 : World} {X S : Nat} {c : GCode} {A1 A2 A3 : Option Addr} {c1 c2 c3 k : Nat} {ss ss' : List GSpot} (h : SpSt w W X S c A1 A2 A3 c1 c2 c3 k ss) (hs : stepAt c ss k = (ss', 0)) (hC : ChkSt (w.alloc (.cells #[.string c.name, .slice A1 c.vars.length c1, .slice A2 c.blocks.length c2, .slice A3 c.ins.length c3] 26)) W3 X S c (.slice A1 c.vars.length c1) (.slice A2 c.blocks.length c2) (.slice A3 c.ins.length c3) ss') (hk : k < c.ins.length) : SpSt w W3 X S c A1 A2 A3 c1 c2 c3 (k + 1) ss' := by
  refine ⟨hC, ?_, by omega, h.right, h.walk.trans (walk_next (by omega) hs)⟩
  have := plc_step (k := k) h.ok (by rw [hs])
  rwa [hs] at this
theorem SpSt.end {w W W3 : World} {X S : Nat} {c : GCode} {A1 A2 A3 : Option Addr} {c1 c2 c3 : Nat} {ss ss' : List GSpot} (h : SpSt w W X S c A1 A2 A3 c1 c2 c3 c.ins.length ss) (hs : stepAt c ss c.ins.length = (ss', 0)) (hC : ChkSt (w.alloc (.cells #[.string c.name, .slice A1 c.vars.length c1, .slice A2 c.blocks.length c2, .slice A3 c.ins.length c3] 26)) W3 X S c (.slice A1 c.vars.length c1) (.slice A2 c.blocks.length c2) (.slice A3 c.ins.length c3) ss') : SpotsPost c w (.returned (.tuple #[.slice (some ⟨S, 0, none⟩) ss'.length ss'.length, .int .i64 0, .int .i64 0])) W3 := by
  have e := h.last hs rfl
  unfold SpotsPost
  rw [e]
  exact ⟨_, rfl, .inr ⟨S, Nat.le_of_lt (chk_bel hC).2, rfl, hC.pl⟩, (chk_bel hC).1⟩
set_option maxRecDepth 100000 in
set_option maxHeartbeats 8000000 in
theorem spots_any (c : GCode) (hw : c.Wf) (hn : (c.ins.length : Int) < 9223372036854775807) (vs bs is : Value) (w : World) (h : CodeRd w c vs bs is) :
    Calls Try.prog 44 #[.agg #[.string c.name, vs, bs, is]] w (SpotsPost c w) := by
  obtain ⟨A1, c1, rfl⟩ : ∃ A c', vs = .slice A c.vars.length c' := by obtain ⟨_, A, c', h, _⟩ := h.vars; exact ⟨A, c', h⟩
  obtain ⟨A2, c2, rfl⟩ : ∃ A c', bs = .slice A c.blocks.length c' := by obtain ⟨_, A, c', h, _⟩ := h.blocks; exact ⟨A, c', h⟩
  obtain ⟨A3, c3, rfl⟩ : ∃ A c', is = .slice A c.ins.length c' := by obtain ⟨_, A, c', h, _⟩ := h.ins; exact ⟨A, c', h⟩
  obtain ⟨hb0, s0, z0⟩ := one_block w (Obj.cells #[.string c.name, .slice A1 c.vars.length c1, .slice A2 c.blocks.length c2, .slice A3 c.ins.length c3] 26)
  have HRT := Fact.mk (right_any c hw hn _ _ _ _ (h.below hb0))
  have HB0 := Fact.mk hb0
  have S0 := Fact.mk s0
  have H := Fact.mk h
  have HN := Fact.mk hn
  clear h hb0 s0 hw
  cases hR : rightB c with
  | false =>
    have he : spotsB c = ([], 0, 130) := by unfold spotsB; rw [hR]; rfl
    unfold SpotsPost
    rw [he]
    rw [hR] at HRT
    clear he hR
    go_enter Try.func44, Try.ntmps44
    go_wp2
    go_step3
    go_wp2_with fail
    refine HRT.out.mono ?_
    rintro e W1 ⟨rfl, hb1⟩
    have B1 := Fact.mk (HB0.out.trans (hb1.mono HB0.out.size))
    clear hb1
    go_wp2
    simp only [Exit.noGoto_ret]
    go_ret3
    exact ⟨_, rfl, .inl ⟨rfl, rfl⟩, B1.out⟩
  | true =>
    have RP := Fact.mk hR
    rw [hR] at HRT
    clear hR
    have hlen := (right_parts RP.out).2.2.2.2.1
    have hlen1 := (right_parts RP.out).2.2.2.1
    have HI := Fact.mk (ins_ok RP.out)
    have HM := Fact.mk hlen
    go_enter Try.func44, Try.ntmps44
    go_wp2
    refine wp_scope_jumps 0 (fun a' w' => ∃ (X S k : Nat) (ss : List GSpot) (u8 u9 u10 u11 u12 u13 u14 u15 u16 u17 u18 u19 u20 u21 u22 u23 u24 u25 u26 u27 u28 u29 u30 u31 u32 u33 u34 u35 u36 u37 u38 u39 u40 u41 u42 u43 u44 u45 u46 u47 u48 u49 u50 : Value), a' = { tmps := #[.agg #[.string c.name, .slice A1 c.vars.length c1, .slice A2 c.blocks.length c2, .slice A3 c.ins.length c3], .pointer (some ⟨w.heap.size, 0, none⟩), .slice none 0 0, .int .i64 0, .int .i64 0, .pointer (some ⟨X, 0, none⟩), .int .i64 (k : Int), .int .i64 0, u8, u9, u10, u11, u12, u13, u14, u15, u16, u17, u18, u19, u20, u21, u22, u23, u24, u25, u26, u27, u28, u29, u30, u31, u32, u33, u34, u35, u36, u37, u38, u39, u40, u41, u42, u43, u44, u45, u46, u47, u48, u49, u50], defers := [] } ∧ Fact (SpSt w w' X S c A1 A2 A3 c1 c2 c3 k ss)) (fun a' _ => c.ins.length + 1 - (intOf (a'.tmps.getD 6 undef)).toNat) rfl ?_ ?_
    · go_wp2_with fail
      refine HRT.out.mono ?_
      rintro e W1 ⟨rfl, hb1⟩
      have B1 := Fact.mk hb1
      have S1 := Fact.mk ((hb1.block w.heap.size (by rw [z0]; omega)).trans S0.out)
      have hl1 : w.heap.size < W1.heap.size := by have := hb1.size; rw [z0] at this; omega
      have k0 : W1.cell? ⟨w.heap.size, 0, none⟩ = some (.string c.name) := by rw [cell_of_row _ _ 0 _ _ _ S1.out]; rfl
      have k1 : W1.cell? ⟨w.heap.size, 1, none⟩ = some (.slice A1 c.vars.length c1) := by rw [cell_of_row _ _ 1 _ _ _ S1.out]; rfl
      have k2 : W1.cell? ⟨w.heap.size, 2, none⟩ = some (.slice A2 c.blocks.length c2) := by rw [cell_of_row _ _ 2 _ _ _ S1.out]; rfl
      have k3 : W1.cell? ⟨w.heap.size, 3, none⟩ = some (.slice A3 c.ins.length c3) := by rw [cell_of_row _ _ 3 _ _ _ S1.out]; rfl
      clear hb1 HRT
      have hmk : ∀ W, (Instr.makeSlice 106 (.int .i64 ((c.ins.length : Int) + 1)) (.int .i64 ((c.ins.length : Int) + 1))).run Try.prog W = .ok (.slice (some ⟨W.heap.size, 0, none⟩) (c.ins.length + 1) (c.ins.length + 1)) (W.alloc (.cells (spRow (c.ins.length + 1)) 122)) := fun W => run_spots (c.ins.length + 1) (by omega) W
      go_wp2_with fail
      go_region
      clear hmk k0 k1 k2
      obtain ⟨t1, t2, t3, t4⟩ := two_blocks W1 (Obj.cells (spRow (c.ins.length + 1)) 122) (Obj.cells #[.string c.name, .slice A1 c.vars.length c1, .slice A2 c.blocks.length c2, .slice A3 c.ins.length c3, .slice (some ⟨W1.heap.size, 0, none⟩) (c.ins.length + 1) (c.ins.length + 1)] 150)
      obtain ⟨W2, hW2⟩ : ∃ W2, ((W1.alloc (Obj.cells (spRow (c.ins.length + 1)) 122)).alloc (Obj.cells #[.string c.name, .slice A1 c.vars.length c1, .slice A2 c.blocks.length c2, .slice A3 c.ins.length c3, .slice (some ⟨W1.heap.size, 0, none⟩) (c.ins.length + 1) (c.ins.length + 1)] 150)).drew = W2 := ⟨_, rfl⟩
      rw [hW2]
      replace t1 : Below W1.heap.size W1 W2 := hW2 ▸ t1.drew
      replace t2 : W2.heap[W1.heap.size]? = some (.cells (spRow (c.ins.length + 1)) 122 (0, 0)) := hW2 ▸ t2
      replace t3 : W2.heap[W1.heap.size + 1]? = some (.cells #[.string c.name, .slice A1 c.vars.length c1, .slice A2 c.blocks.length c2, .slice A3 c.ins.length c3, .slice (some ⟨W1.heap.size, 0, none⟩) (c.ins.length + 1) (c.ins.length + 1)] 150 (0, 0)) := hW2 ▸ t3
      have T1 := Fact.mk t1
      have T2 := Fact.mk t2
      have T3 := Fact.mk t3
      have k4 : W2.cell? ⟨W1.heap.size + 1, 4, none⟩ = some (.slice (some ⟨W1.heap.size, 0, none⟩) (c.ins.length + 1) (c.ins.length + 1)) := by rw [cell_of_row _ _ 4 _ _ _ t3]; rfl
      have c0 : W2.cell? ⟨W1.heap.size, 0, none⟩ = some (.bool false) := by rw [cell_of_row _ _ 0 _ _ _ t2]; unfold spRow; rw [List.replicate_succ, List.flatMap_cons]; rfl
      have f0 : W2.frozen? ⟨W1.heap.size, 0, none⟩ = false := frozen_of_row W2 W1.heap.size 0 _ _ t2
      have hp1 : (0 : Int) < (c.ins.length : Int) + 1 := by omega
      clear t1 t2 t3 t4 hW2 k3
      go_upto_region 5 with (fail)
      obtain ⟨W, hW⟩ : ∃ W, W2.setCell ⟨W1.heap.size, 0, none⟩ (.bool true) = W := ⟨_, rfl⟩
      rw [hW]
      have HS : Fact (SpSt w W (W1.heap.size + 1) W1.heap.size c A1 A2 A3 c1 c2 c3 0 (start c.ins.length)) := ⟨by
        have hb : Below (w.alloc (.cells #[.string c.name, .slice A1 c.vars.length c1, .slice A2 c.blocks.length c2, .slice A3 c.ins.length c3] 26)).heap.size (w.alloc (.cells #[.string c.name, .slice A1 c.vars.length c1, .slice A2 c.blocks.length c2, .slice A3 c.ins.length c3] 26)) W := by
          rw [← hW]
          exact (B1.out.trans (T1.out.mono B1.out.size)).setCell (by show _ ≤ W1.heap.size; rw [z0]; omega) _
        refine ⟨⟨?_, H.out.below HB0.out, hb, by rw [z0]; omega, by omega, plc_new T2.out (by rw [hW])⟩, plc_start c, Nat.zero_le _, RP.out, by rw [Nat.sub_zero]⟩
        rw [← hW, heap_setCell_other W2 ⟨W1.heap.size, 0, none⟩ (W1.heap.size + 1) _ (by show W1.heap.size + 1 ≠ W1.heap.size; omega), T3.out]
        simp [start]⟩
      clear hW k4 c0 f0 hp1
      have hlen3 : (start c.ins.length).length = c.ins.length + 1 := by simp [start]
      obtain ⟨v, cr, -, -, -, -, -, -, -⟩ := HS.out.st.pl.at 0 (by omega)
      replace cr : W.cell? ⟨W1.heap.size, 0, none⟩ = some (.bool true) := by rw [Nat.zero_mul] at cr; exact cr
      obtain ⟨-, -, -, -, k4⟩ := HS.out.st.chk.cells
      rw [hlen3] at k4
      have hp1 : (0 : Int) < (c.ins.length : Int) + 1 := by omega
      have hp2 : 0 < c.ins.length := by omega
      have hst : stepAt c (start c.ins.length) 0 = oneB c (start c.ins.length) 0 := rfl
      have HST := Fact.mk hst
      have one := one_any _ W (W1.heap.size + 1) W1.heap.size c _ _ _ _ HS.out.st 0 (Nat.zero_le _) HM.out HI.out HS.out.ok
      rw [show ((0 : Nat) : Int) = 0 from rfl] at one
      have ONE := Fact.mk one
      clear one hst hlen3
      go_wp2
      go_step3
      go_wp2_with fail
      refine ONE.out.mono ?_
      rintro e3 W3 ⟨rfl, hC3⟩
      have HC3 := Fact.mk hC3
      have k3 : W3.cell? ⟨w.heap.size, 3, none⟩ = some (.slice A3 c.ins.length c3) := by rw [cell_of_row _ _ 3 _ _ _ (chk_code HC3.out)]; rfl
      clear cr ONE hC3 k4 hp1
      obtain ⟨er, her⟩ : ∃ er, (oneB c (start c.ins.length) 0).2 = er := ⟨_, rfl⟩
      rw [her]
      by_cases h0 : er = 0
      · subst h0
        obtain ⟨ss', hss⟩ : ∃ ss', (oneB c (start c.ins.length) 0).1 = ss' := ⟨_, rfl⟩
        have HST2 : Fact (stepAt c (start c.ins.length) 0 = (ss', 0)) := ⟨by rw [HST.out, ← hss, ← her]⟩
        rw [hss] at HC3
        clear hss her
        go_wp2
        go_step3
        exact ⟨rfl, W1.heap.size + 1, W1.heap.size, 1, ss', _, _, _, _, _, _, _, _, _, _, _, _, _, _, _, _, _, _, _, _, _, _, _, _, _, _, _, _, _, _, _, _, _, _, _, _, _, _, _, _, _, _, _, rfl, ⟨HS.out.go HST2.out HC3.out hlen1⟩⟩
      · have hb : (er != 0) = true := bne_iff_ne.2 h0
        have HE := Fact.mk her
        clear her h0
        go_wp2
        simp only [Exit.jump]
        go_ret3
        exact HS.out.bad (by rw [HST.out, HE.out]) (bne_iff_ne.1 hb) (chk_bel HC3.out).1
    · rintro a' W ⟨X, S, k, ss, u8, u9, u10, u11, u12, u13, u14, u15, u16, u17, u18, u19, u20, u21, u22, u23, u24, u25, u26, u27, u28, u29, u30, u31, u32, u33, u34, u35, u36, u37, u38, u39, u40, u41, u42, u43, u44, u45, u46, u47, u48, u49, u50, rfl, HS⟩
      clear HRT
      have hlen := HS.out.ok.len
      have hkl := HS.out.k1
      obtain ⟨v, cr, -, -, -, -, -, -, -⟩ := HS.out.st.pl.at k (by omega)
      obtain ⟨-, -, -, -, k4⟩ := HS.out.st.chk.cells
      have k3 : W.cell? ⟨w.heap.size, 3, none⟩ = some (.slice A3 c.ins.length c3) := by rw [cell_of_row _ _ 3 _ _ _ (chk_code HS.out.st)]; rfl
      have hk' : (k : Int) < (ss.length : Int) := by omega
      have lX := HS.out.st.chk.lt
      cases hr : (spotAt ss k).reached with
      | false =>
        rw [hr] at cr
        have hst : stepAt c ss k = (ss, 0) := by unfold stepAt; rw [hr]; rfl
        have HST := Fact.mk hst
        clear hr hst hlen
        by_cases hkn : k < c.ins.length
        · go_wp2
          go_step3
          refine ⟨rfl, ⟨X, S, k + 1, ss, _, _, _, _, _, _, _, _, _, _, _, _, _, _, _, _, _, _, _, _, _, _, _, _, _, _, _, _, _, _, _, _, _, _, _, _, _, _, _, _, _, _, _, rfl, ⟨HS.out.next HST.out hkn⟩⟩, ?_⟩
          simp [intOf]; omega
        · obtain rfl : k = c.ins.length := by omega
          go_wp2
          simp only [Exit.jump]
          go_ret3
          exact HS.out.fin HST.out
      | true =>
        rw [hr] at cr
        have hst : stepAt c ss k = oneB c ss k := by unfold stepAt; rw [hr]; rfl
        have HST := Fact.mk hst
        have ONE := Fact.mk (one_any _ W X S c _ _ _ ss HS.out.st k hkl HM.out HI.out HS.out.ok)
        clear hr hst hlen
        go_wp2_with fail
        refine ONE.out.mono ?_
        rintro e3 W3 ⟨rfl, hC3⟩
        have HC3 := Fact.mk hC3
        have CD : Fact (W3.heap[w.heap.size]? = some (.cells #[.string c.name, .slice A1 c.vars.length c1, .slice A2 c.blocks.length c2, .slice A3 c.ins.length c3] 26 (0, 0))) := ⟨chk_code HC3.out⟩
        have k3 : W3.cell? ⟨w.heap.size, 3, none⟩ = some (.slice A3 c.ins.length c3) := by rw [cell_of_row _ _ 3 _ _ _ CD.out]; rfl
        clear cr ONE hC3
        obtain ⟨er, her⟩ : ∃ er, (oneB c ss k).2 = er := ⟨_, rfl⟩
        rw [her]
        by_cases h0 : er = 0
        · subst h0
          obtain ⟨ss', hss⟩ : ∃ ss', (oneB c ss k).1 = ss' := ⟨_, rfl⟩
          have HST2 : Fact (stepAt c ss k = (ss', 0)) := ⟨by rw [HST.out, ← hss, ← her]⟩
          rw [hss] at HC3
          obtain ⟨-, -, -, -, k5⟩ := HC3.out.chk.cells
          clear hss her
          by_cases hkn : k < c.ins.length
          · go_wp2
            go_step3
            refine ⟨rfl, ⟨X, S, k + 1, ss', _, _, _, _, _, _, _, _, _, _, _, _, _, _, _, _, _, _, _, _, _, _, _, _, _, _, _, _, _, _, _, _, _, _, _, _, _, _, _, _, _, _, _, rfl, ⟨HS.out.go HST2.out HC3.out hkn⟩⟩, ?_⟩
            simp [intOf]; omega
          · obtain rfl : k = c.ins.length := by omega
            go_wp2
            simp only [Exit.jump]
            go_ret3
            exact HS.out.end HST2.out HC3.out
        · have hb : (er != 0) = true := bne_iff_ne.2 h0
          have HE := Fact.mk her
          clear her h0
          go_wp2
          simp only [Exit.jump]
          go_ret3
          exact HS.out.bad (by rw [HST.out, HE.out]) (bne_iff_ne.1 hb) (chk_bel HC3.out).1

end Go.Proofs.Ytiogpainajokkaa

namespace Go.Proofs.Ytiogpainajokkaa
open Go.RowKit
theorem walk_plc {c : GCode} : ∀ (f k : Nat) (ss : List GSpot), PlcOk c ss → (walkB c f k ss).2.2 = 0 → PlcOk c (walkB c f k ss).1 := by
  intro f
  induction f with
  | zero => intro k ss h _; exact h
  | succ f ih =>
    intro k ss h h0
    unfold walkB at h0 ⊢
    by_cases hs : (stepAt c ss k).2 = 0
    · rw [if_pos hs] at h0 ⊢
      exact ih _ _ (plc_step h hs) h0
    · rw [if_neg hs] at h0; exact absurd h0 hs
theorem spots_right {c : GCode} (h : (spotsB c).2.2 = 0) : rightB c = true := by
  unfold spotsB at h
  by_cases hr : rightB c = true
  · exact hr
  · rw [if_neg hr] at h; cases h
theorem spots_plc {c : GCode} (h : (spotsB c).2.2 = 0) : PlcOk c (spotsB c).1 := by
  have hr := spots_right h
  unfold spotsB at h ⊢
  rw [if_pos hr] at h ⊢
  exact walk_plc _ _ _ (plc_start c) h
theorem spots_none {c : GCode} (h : (spotsB c).2.2 ≠ 0) : (spotsB c).1 = [] := by
  unfold spotsB at h ⊢
  by_cases hr : rightB c = true
  · rw [if_pos hr] at h ⊢; exact walk_err h
  · rw [if_neg hr]
theorem most_drop {n : Nat} {ss : List GSpot} {k : Nat} (hk : k < ss.length) (m : Int) : mostB n k (ss.drop k) m = mostB n (k + 1) (ss.drop (k + 1)) (max m (spotCost n k (spotAt ss k))) := by
  rw [List.drop_eq_getElem_cons hk, mostB]
  have e : spotAt ss k = ss[k] := by unfold spotAt; rw [List.getD_eq_getElem?_getD, List.getElem?_eq_getElem hk]; rfl
  rw [e]
theorem SpotsRd.below {base : Nat} {w w' : World} {v : Value} {ss : List GSpot} (h : SpotsRd base w v ss) (hb : Below w.heap.size w w') : SpotsRd base w' v ss := by
  rcases h with h | ⟨S, h1, h2, h3⟩
  · exact .inl h
  · exact .inr ⟨S, h1, h2, h3.below hb⟩
structure StepsSt (W1 wr : World) (n : Nat) (ss : List GSpot) (k : Nat) (m : Int) : Prop where
  bel : Below W1.heap.size W1 wr
  m0 : 0 ≤ m
  m1 : m ≤ 100000
  most : mostB n 0 ss 0 = mostB n k (ss.drop k) m
set_option maxRecDepth 100000 in
set_option maxHeartbeats 4000000 in
theorem steps_any (c : GCode) (hw : c.Wf) (hn : (c.ins.length : Int) < 9223372036854775807) (vs bs is : Value) (w : World) (h : CodeRd w c vs bs is) :
    Calls Try.prog 22 #[.agg #[.string c.name, vs, bs, is]] w fun e w' => e = .returned (.int .i64 (stepsB c)) ∧ Below w.heap.size w w' := by
  obtain ⟨A1, c1, rfl⟩ : ∃ A c', vs = .slice A c.vars.length c' := by obtain ⟨_, A, c', h, _⟩ := h.vars; exact ⟨A, c', h⟩
  obtain ⟨A2, c2, rfl⟩ : ∃ A c', bs = .slice A c.blocks.length c' := by obtain ⟨_, A, c', h, _⟩ := h.blocks; exact ⟨A, c', h⟩
  obtain ⟨A3, c3, rfl⟩ : ∃ A c', is = .slice A c.ins.length c' := by obtain ⟨_, A, c', h, _⟩ := h.ins; exact ⟨A, c', h⟩
  obtain ⟨hb0, s0, z0⟩ := one_block w (Obj.cells #[.string c.name, .slice A1 c.vars.length c1, .slice A2 c.blocks.length c2, .slice A3 c.ins.length c3] 26)
  have SP := Fact.mk (spots_any c hw hn _ _ _ _ (h.below hb0))
  have HB0 := Fact.mk hb0
  have S0 := Fact.mk s0
  have Z0 := Fact.mk z0
  have hn1 : c.ins.length ≤ 9223372036854775806 := by omega
  clear h hb0 s0 hw z0 hn
  obtain ⟨sr, hsr⟩ : ∃ sr, stepsB c = sr := ⟨_, rfl⟩
  rw [hsr]
  have HSR := Fact.mk hsr
  clear hsr
  go_enter Try.func22, Try.ntmps22
  go_wp2_with fail
  refine SP.out.mono ?_
  rintro e W1 ⟨v, rfl, hsp, hb1⟩
  have B1 := Fact.mk (HB0.out.trans (hb1.mono HB0.out.size))
  have S1 := Fact.mk ((hb1.block w.heap.size (by rw [Z0.out]; omega)).trans S0.out)
  have hl1 : w.heap.size < W1.heap.size := by have := hb1.size; rw [Z0.out] at this; omega
  clear hb1 SP S0 Z0 HB0
  obtain ⟨er, her⟩ : ∃ er, (spotsB c).2.2 = er := ⟨_, rfl⟩
  rw [her]
  by_cases h0 : er = 0
  · subst h0
    have PL := Fact.mk (spots_plc her)
    have HRT := Fact.mk (spots_right her)
    have hst : stepsB c = mostB c.ins.length 0 (spotsB c).1 0 := by unfold stepsB; rw [if_pos her]
    obtain ⟨ss, hss⟩ : ∃ ss, (spotsB c).1 = ss := ⟨_, rfl⟩
    rw [hss] at PL hsp hst
    have HMO := Fact.mk hst
    clear hst her
    have hlen := PL.out.len
    have hcs : ∃ S, v = .slice (some ⟨S, 0, none⟩) ss.length ss.length ∧ Places W1 S ss := by
      rcases hsp with ⟨_, h⟩ | ⟨S, _, h1, h2⟩
      · rw [h] at hlen; simp at hlen
      · exact ⟨S, h1, h2⟩
    obtain ⟨S, rfl, hpl⟩ := hcs
    have PP := Fact.mk hpl
    have HLEN := Fact.mk hlen
    have hm2 : ss.length ≤ 100000 := by
      have := (right_parts HRT.out).2.2.2.2.1
      omega
    clear hsp hss hpl hlen
    have ST : Fact (StepsSt W1 W1 c.ins.length ss 0 0) := ⟨⟨Below.refl _ _, by omega, by omega, by rw [List.drop_zero]⟩⟩
    go_wp2_with fail
    go_loopw [6, 19] (fun sm i wr => ∃ (k : Nat) (m : Int), k ≤ ss.length ∧ i = .int .i64 k ∧ sm = .int .i64 m ∧ Fact (StepsSt W1 wr c.ins.length ss k m)) (fun _ i _ => ss.length - (intOf i).toNat)
    case atStart => exact ⟨0, 0, Nat.zero_le _, rfl, rfl, ST⟩
    case round =>
      obtain ⟨k, m, hk, rfl, rfl, hst⟩ := hrel
      by_cases hlt : k < ss.length
      · have HS := Fact.mk hst.out
        obtain ⟨v, cr, cs, cm, hr, -, -, -, -⟩ := (PP.out.below hst.out.bel).at k hlt
        obtain ⟨B, b0, rfl⟩ : ∃ B b0, v = .slice B (spotAt ss k).stack.length b0 := by
          obtain ⟨_, A, a0, e, _⟩ := hr
          exact ⟨A, a0, e⟩
        have lo := PL.out.lo k
        have hi := PL.out.hi k
        have m0 := hst.out.m0
        have m1 := hst.out.m1
        have k3 : wr.cell? ⟨w.heap.size, 3, none⟩ = some (.slice A3 c.ins.length c3) := cell_below hst.out.bel _ _ (by rw [cell_of_row _ _ 3 _ _ _ S1.out]; rfl)
        have lS : S < wr.heap.size := (PP.out.below hst.out.bel).lt
        have lw : w.heap.size < wr.heap.size := Nat.lt_of_lt_of_le hl1 hst.out.bel.size
        have i1 : (k : Int) < (ss.length : Int) := by omega
        obtain ⟨rc, hrc⟩ : ∃ rc, (spotAt ss k).reached = rc := ⟨_, rfl⟩
        obtain ⟨mm, hmm⟩ : ∃ mm, (spotAt ss k).steps = mm := ⟨_, rfl⟩
        obtain ⟨sl, hsl⟩ : ∃ sl, (spotAt ss k).stack.length = sl := ⟨_, rfl⟩
        rw [hrc] at cr
        rw [hmm] at cm lo hi
        rw [hsl] at cs
        have RC := Fact.mk hrc
        have MM := Fact.mk hmm
        have MD := Fact.mk (most_drop (n := c.ins.length) hlt m)
        clear hst hr hrc hmm hsl
        cases rc with
        | false =>
          have HC : Fact (spotCost c.ins.length k (spotAt ss k) = mm) := ⟨by unfold spotCost; rw [RC.out, MM.out]; rfl⟩
          by_cases hmx : m < mm
          · have hmx2 : m ≤ mm := by omega
            have ST5 : Fact (∀ wr', Below W1.heap.size W1 wr' → StepsSt W1 wr' c.ins.length ss (k + 1) (mm)) := ⟨fun wr' hb => ⟨hb, by omega, by omega, by rw [HS.out.most, MD.out, HC.out, show max m (mm) = mm by omega]⟩⟩
            go_wp2_with fail
            go_roundw
            case rel => exact ⟨k + 1, mm, by omega, by go_num, rfl, ⟨ST5.out _ (HS.out.bel.alloc HS.out.bel.size _)⟩⟩
            case measure => simp [intOf]; omega
          · have hmx2 : mm ≤ m := by omega
            have ST5 : Fact (∀ wr', Below W1.heap.size W1 wr' → StepsSt W1 wr' c.ins.length ss (k + 1) m) := ⟨fun wr' hb => ⟨hb, m0, m1, by rw [HS.out.most, MD.out, HC.out, show max m (mm) = m by omega]⟩⟩
            go_wp2_with fail
            go_roundw
            case rel => exact ⟨k + 1, m, by omega, by go_num, rfl, ⟨ST5.out _ (HS.out.bel.alloc HS.out.bel.size _)⟩⟩
            case measure => simp [intOf]; omega
        | true =>
          by_cases hkn : k < c.ins.length
          · have HC : Fact (spotCost c.ins.length k (spotAt ss k) = mm + 1) := ⟨by unfold spotCost; rw [RC.out, MM.out, decide_eq_true hkn]; rfl⟩
            by_cases hmx : m < mm + 1
            · have hmx2 : m ≤ mm + 1 := by omega
              have ST5 : Fact (∀ wr', Below W1.heap.size W1 wr' → StepsSt W1 wr' c.ins.length ss (k + 1) (mm + 1)) := ⟨fun wr' hb => ⟨hb, by omega, by omega, by rw [HS.out.most, MD.out, HC.out, show max m (mm + 1) = mm + 1 by omega]⟩⟩
              go_wp2_with fail
              go_roundw
              case rel => exact ⟨k + 1, mm + 1, by omega, by go_num, rfl, ⟨ST5.out _ (HS.out.bel.alloc HS.out.bel.size _)⟩⟩
              case measure => simp [intOf]; omega
            · have hmx2 : mm + 1 ≤ m := by omega
              have ST5 : Fact (∀ wr', Below W1.heap.size W1 wr' → StepsSt W1 wr' c.ins.length ss (k + 1) m) := ⟨fun wr' hb => ⟨hb, m0, m1, by rw [HS.out.most, MD.out, HC.out, show max m (mm + 1) = m by omega]⟩⟩
              go_wp2_with fail
              go_roundw
              case rel => exact ⟨k + 1, m, by omega, by go_num, rfl, ⟨ST5.out _ (HS.out.bel.alloc HS.out.bel.size _)⟩⟩
              case measure => simp [intOf]; omega
          · have HC : Fact (spotCost c.ins.length k (spotAt ss k) = mm) := ⟨by unfold spotCost; rw [RC.out, MM.out, decide_eq_false hkn]; rfl⟩
            by_cases hmx : m < mm
            · have hmx2 : m ≤ mm := by omega
              have ST5 : Fact (∀ wr', Below W1.heap.size W1 wr' → StepsSt W1 wr' c.ins.length ss (k + 1) (mm)) := ⟨fun wr' hb => ⟨hb, by omega, by omega, by rw [HS.out.most, MD.out, HC.out, show max m (mm) = mm by omega]⟩⟩
              go_wp2_with fail
              go_roundw
              case rel => exact ⟨k + 1, mm, by omega, by go_num, rfl, ⟨ST5.out _ (HS.out.bel.alloc HS.out.bel.size _)⟩⟩
              case measure => simp [intOf]; omega
            · have hmx2 : mm ≤ m := by omega
              have ST5 : Fact (∀ wr', Below W1.heap.size W1 wr' → StepsSt W1 wr' c.ins.length ss (k + 1) m) := ⟨fun wr' hb => ⟨hb, m0, m1, by rw [HS.out.most, MD.out, HC.out, show max m (mm) = m by omega]⟩⟩
              go_wp2_with fail
              go_roundw
              case rel => exact ⟨k + 1, m, by omega, by go_num, rfl, ⟨ST5.out _ (HS.out.bel.alloc HS.out.bel.size _)⟩⟩
              case measure => simp [intOf]; omega
      · obtain rfl : k = ss.length := by omega
        have HS := Fact.mk hst.out
        clear hst
        go_wp2_with fail
        go_ret
        refine ⟨ret_int ?_, B1.out.trans (HS.out.bel.mono B1.out.size)⟩
        rw [← HSR.out, HMO.out, HS.out.most, List.drop_length]
        rfl
  · have hb : (er != 0) = true := bne_iff_ne.2 h0
    have hst : sr = 0 := by rw [← HSR.out]; unfold stepsB; rw [if_neg (by rw [her]; exact h0)]
    subst hst
    clear her h0
    have hv : ∃ A n c, v = .slice A n c := by
      rcases hsp with ⟨h, _⟩ | ⟨S, _, h, _⟩
      · exact ⟨_, _, _, h⟩
      · exact ⟨_, _, _, h⟩
    obtain ⟨A, n, c0, rfl⟩ := hv
    clear hsp
    go_wp2
    go_ret
    exact ⟨rfl, B1.out⟩
set_option maxRecDepth 100000 in
set_option maxHeartbeats 2000000 in
theorem check_any (c : GCode) (hw : c.Wf) (hn : (c.ins.length : Int) < 9223372036854775807) (vs bs is : Value) (bud : Int) (w : World) (h : CodeRd w c vs bs is) :
    Calls Try.prog 34 #[.agg #[.string c.name, vs, bs, is], .int .i64 bud] w fun e w' => e = .returned (.int .i64 (checkB c bud)) ∧ Below w.heap.size w w' := by
  obtain ⟨A1, c1, rfl⟩ : ∃ A c', vs = .slice A c.vars.length c' := by obtain ⟨_, A, c', h, _⟩ := h.vars; exact ⟨A, c', h⟩
  obtain ⟨A2, c2, rfl⟩ : ∃ A c', bs = .slice A c.blocks.length c' := by obtain ⟨_, A, c', h, _⟩ := h.blocks; exact ⟨A, c', h⟩
  obtain ⟨A3, c3, rfl⟩ : ∃ A c', is = .slice A c.ins.length c' := by obtain ⟨_, A, c', h, _⟩ := h.ins; exact ⟨A, c', h⟩
  obtain ⟨hb0, s0, z0⟩ := one_block w (Obj.cells #[.string c.name, .slice A1 c.vars.length c1, .slice A2 c.blocks.length c2, .slice A3 c.ins.length c3] 26)
  have SP := Fact.mk (spots_any c hw hn _ _ _ _ (h.below hb0))
  have HB0 := Fact.mk hb0
  have S0 := Fact.mk s0
  have Z0 := Fact.mk z0
  have HST := Fact.mk (fun (W : World) (hW : Below w.heap.size w W) => steps_any c hw hn _ _ _ W (h.below hW))
  clear h hb0 s0 hw z0 hn
  obtain ⟨cr, hcr⟩ : ∃ cr, checkB c bud = cr := ⟨_, rfl⟩
  rw [hcr]
  have HCR := Fact.mk hcr
  clear hcr
  go_enter Try.func34, Try.ntmps34
  go_wp2_with fail
  refine SP.out.mono ?_
  rintro e W1 ⟨v, rfl, hsp, hb1⟩
  have B1 := Fact.mk (HB0.out.trans (hb1.mono HB0.out.size))
  have S1 := Fact.mk ((hb1.block w.heap.size (by rw [Z0.out]; omega)).trans S0.out)
  have hl1 : w.heap.size < W1.heap.size := by have := hb1.size; rw [Z0.out] at this; omega
  have hv : ∃ A n c, v = .slice A n c := by
    rcases hsp with ⟨h, _⟩ | ⟨S, _, h, _⟩
    · exact ⟨_, _, _, h⟩
    · exact ⟨_, _, _, h⟩
  obtain ⟨A, n, c0, rfl⟩ := hv
  have k0 : W1.cell? ⟨w.heap.size, 0, none⟩ = some (.string c.name) := by rw [cell_of_row _ _ 0 _ _ _ S1.out]; rfl
  have k1 : W1.cell? ⟨w.heap.size, 1, none⟩ = some (.slice A1 c.vars.length c1) := by rw [cell_of_row _ _ 1 _ _ _ S1.out]; rfl
  have k2 : W1.cell? ⟨w.heap.size, 2, none⟩ = some (.slice A2 c.blocks.length c2) := by rw [cell_of_row _ _ 2 _ _ _ S1.out]; rfl
  have k3 : W1.cell? ⟨w.heap.size, 3, none⟩ = some (.slice A3 c.ins.length c3) := by rw [cell_of_row _ _ 3 _ _ _ S1.out]; rfl
  clear hb1 SP S0 Z0 HB0 hsp
  obtain ⟨er, her⟩ : ∃ er, (spotsB c).2.2 = er := ⟨_, rfl⟩
  rw [her]
  by_cases h0 : er = 0
  · subst h0
    obtain ⟨r, hr⟩ : ∃ r, stepsB c = r := ⟨_, rfl⟩
    have hst : cr = if bud < r then 142 else 0 := by rw [← HCR.out]; unfold checkB; rw [if_pos her, hr]
    have HCE := Fact.mk hst
    clear hst her
    go_wp2_with fail
    refine (HST.out _ B1.out).mono ?_
    rintro e W2 ⟨rfl, hb2⟩
    rw [hr]
    have B2 := Fact.mk (B1.out.trans (hb2.mono B1.out.size))
    clear hr hb2 k0 k1 k2 k3
    by_cases hbr : bud < r
    · obtain rfl : cr = 142 := by rw [HCE.out, if_pos hbr]
      go_wp2
      go_ret
      exact ⟨rfl, B2.out⟩
    · obtain rfl : cr = 0 := by rw [HCE.out, if_neg hbr]
      go_wp2
      go_ret
      exact ⟨rfl, B2.out⟩
  · have hb : (er != 0) = true := bne_iff_ne.2 h0
    have hst : cr = er := by rw [← HCR.out]; unfold checkB; rw [if_neg (by rw [her]; exact h0), her]
    subst hst
    clear her h0
    go_wp2
    go_ret
    exact ⟨rfl, B1.out⟩
end Go.Proofs.Ytiogpainajokkaa

namespace Go.Proofs.Ytiogpainajokkaa
/-- A place of a program that passes, gone over with the places as they were then. -/
theorem final_ins {c : GCode} (h0 : (spotsB c).2.2 = 0) {k : Nat} (hk : k < c.ins.length) (hr : (spotAt (spotsB c).1 k).reached = true) :
    ∃ sj sj', sj.length = c.ins.length + 1 ∧ OneOk c.ins[k] (spotAt (spotsB c).1 k) k (effB c c.ins[k] (spotAt (spotsB c).1 k).stack) sj sj' ∧ Grew sj' (spotsB c).1 := by
  have hR := spots_right h0
  have e : spotsB c = walkB c (c.ins.length + 1) 0 (start c.ins.length) := by unfold spotsB; rw [if_pos hR]
  rw [e] at h0 hr ⊢
  obtain ⟨_, _, h3⟩ := walk_ok h0
  obtain ⟨sj, g1, g2, g3, g4⟩ := h3 k (Nat.zero_le _) (by omega)
  have hi : c.ins[k]? = some c.ins[k] := List.getElem?_eq_getElem hk
  rw [← g4] at hr
  have hs : stepAt c sj k = oneIns c.ins[k] (spotAt sj k) k (effB c c.ins[k] (spotAt sj k).stack) sj := by
    unfold stepAt; rw [if_pos hr]; exact oneB_ins hi
  rw [hs] at g2 g3
  have ok := oneIns_ok g2
  rw [g4] at ok g3
  exact ⟨sj, _, g1.1.trans (by simp [start]), ok, g3⟩
theorem final_end {c : GCode} (h0 : (spotsB c).2.2 = 0) (hr : (spotAt (spotsB c).1 c.ins.length).reached = true) : (spotAt (spotsB c).1 c.ins.length).stack = [] := by
  have hR := spots_right h0
  have e : spotsB c = walkB c (c.ins.length + 1) 0 (start c.ins.length) := by unfold spotsB; rw [if_pos hR]
  rw [e] at h0 hr ⊢
  obtain ⟨_, _, h3⟩ := walk_ok h0
  obtain ⟨sj, g1, g2, g3, g4⟩ := h3 c.ins.length (Nat.zero_le _) (by omega)
  rw [← g4] at hr ⊢
  unfold stepAt at g2
  rw [if_pos hr] at g2
  unfold oneB at g2
  rw [List.getElem?_eq_none (Nat.le_refl _)] at g2
  by_cases hp : 0 < (spotAt sj c.ins.length).stack.length
  · rw [if_pos hp] at g2; cases g2
  · exact List.eq_nil_of_length_eq_zero (by omega)
theorem Grew.at {a b : List GSpot} (h : Grew a b) {j : Nat} (hr : (spotAt a j).reached = true) {s : List Int} (hs : (spotAt a j).stack = s) {m : Int} (hm : m ≤ (spotAt a j).steps) : (spotAt b j).reached = true ∧ (spotAt b j).stack = s ∧ m ≤ (spotAt b j).steps := by
  obtain ⟨h1, h2⟩ := h.2 j
  obtain ⟨h3, h4⟩ := h1 hr
  exact ⟨h3, h4.trans hs, Int.le_trans hm h2⟩
theorem join_jump {c : GCode} (h0 : (spotsB c).2.2 = 0) {k : Nat} (hk : k < c.ins.length) (hr : (spotAt (spotsB c).1 k).reached = true) (hj : jumpsB c.ins[k] = true) :
    (k : Int) < c.ins[k].a ∧ c.ins[k].a ≤ c.ins.length ∧ (spotAt (spotsB c).1 c.ins[k].a.toNat).reached = true ∧ (spotAt (spotsB c).1 k).steps + 1 ≤ (spotAt (spotsB c).1 c.ins[k].a.toNat).steps := by
  obtain ⟨sj, sj', hl, ok, g⟩ := final_ins h0 hk hr
  have hf := (ins_ok (spots_right h0)) k hk
  have ha := fit_jump hf.2 (by simpa [jumpsB] using hj)
  have hfw := ok.fwd hj
  obtain ⟨j1, j2, j3⟩ := ok.jump hj (by omega)
  obtain ⟨r1, _, r3⟩ := g.at j1 j2 j3
  exact ⟨hfw, by omega, r1, r3⟩
theorem join_next {c : GCode} (h0 : (spotsB c).2.2 = 0) {k : Nat} (hk : k < c.ins.length) (hr : (spotAt (spotsB c).1 k).reached = true) (hs : staysB c.ins[k] = true) :
    (spotAt (spotsB c).1 (k + 1)).reached = true ∧ (spotAt (spotsB c).1 k).steps + 1 ≤ (spotAt (spotsB c).1 (k + 1)).steps := by
  obtain ⟨sj, sj', hl, ok, g⟩ := final_ins h0 hk hr
  obtain ⟨j1, j2, j3⟩ := ok.next hs (by omega)
  obtain ⟨r1, _, r3⟩ := g.at j1 j2 j3
  exact ⟨r1, r3⟩
theorem join_stop {c : GCode} (h0 : (spotsB c).2.2 = 0) {k : Nat} (hk : k < c.ins.length) (hr : (spotAt (spotsB c).1 k).reached = true) (ho : c.ins[k].op = 22) : (spotAt (spotsB c).1 k).stack = [] := by
  obtain ⟨sj, sj', hl, ok, g⟩ := final_ins h0 hk hr
  have h1 := ok.ends ho
  have he : effB c c.ins[k] (spotAt (spotsB c).1 k).stack = ([], []) := by
    unfold effB
    rw [ho]
    rfl
  rw [he] at h1
  unfold nextB at h1
  simpa using h1
theorem join_cost {c : GCode} (h0 : (spotsB c).2.2 = 0) {k : Nat} (hk : k ≤ c.ins.length) : spotCost c.ins.length k (spotAt (spotsB c).1 k) ≤ stepsB c := by
  have hl := (spots_plc h0).len
  have e : stepsB c = mostB c.ins.length 0 (spotsB c).1 0 := by unfold stepsB; rw [if_pos h0]
  have := (most_le c.ins.length (spotsB c).1 0 0).2 k (by omega)
  rw [Nat.zero_add] at this
  rw [e]
  have e2 : spotAt (spotsB c).1 k = (spotsB c).1[k]'(by omega) := by unfold spotAt; rw [List.getD_eq_getElem?_getD, List.getElem?_eq_getElem (by omega)]; rfl
  rw [e2]
  exact this
theorem join_start {c : GCode} (h0 : (spotsB c).2.2 = 0) : (spotAt (spotsB c).1 0).reached = true := by
  have hR := spots_right h0
  have e : spotsB c = walkB c (c.ins.length + 1) 0 (start c.ins.length) := by unfold spotsB; rw [if_pos hR]
  rw [e] at h0 ⊢
  exact (((walk_ok h0).1.2 0).1 rfl).1
end Go.Proofs.Ytiogpainajokkaa

