/- Contract of check.Spots. -/
import Derived.Test.YthiapebodpkamaaOne
import Derived.Test.YthiapebodpkamaaRightC
import Derived.Test.YthiapebodpkamaaMade
import Derived.WalkMore
import Derived.ScopeJumps
import Derived.Deep.DeepCutAuto
namespace Go.Proofs.Ythiapebodpkamaa
open Go.RowKit
/-- A list of places is told. -/
def SpotsRd (base : Nat) (w : World) (v : Value) (ss : List GSpot) : Prop := (v = .slice none 0 0 ∧ ss = []) ∨ ∃ S, base ≤ S ∧ v = .slice (some ⟨S, 0, none⟩) ss.length ss.length ∧ Places w S ss
def SpotsPost (c : GCode) (w : World) (e : Ending) (w' : World) : Prop := ∃ v, e = .returned (.tuple #[v, .int .i64 ((spotsB c).2.1 : Nat), .int .i64 (spotsB c).2.2]) ∧ SpotsRd w.heap.size w' v (spotsB c).1 ∧ Below w.heap.size w w'
/-- On the way: the places so far, of a right program; the program's own row. -/
structure SpSt (w W : World) (X S : Nat) (c : GCode) (A1 A2 A3 : Option Addr) (c1 c2 c3 k : Nat) (ss : List GSpot) : Prop where
  st : ChkSt (w.alloc (.cells #[.string c.name, .slice A1 c.vars.length c1, .slice A2 c.blocks.length c2, .slice A3 c.ins.length c3] 32)) W X S c (.slice A1 c.vars.length c1) (.slice A2 c.blocks.length c2) (.slice A3 c.ins.length c3) ss
  ok : PlcOk c ss
  k1 : k ≤ c.ins.length
  right : rightB c = true
  walk : walkB c (c.ins.length + 1) 0 (start c.ins.length) = walkB c (c.ins.length + 1 - k) k ss
theorem chk_code {w W : World} {X S : Nat} {c : GCode} {A1 A2 A3 : Option Addr} {c1 c2 c3 : Nat} {ss : List GSpot} (h : ChkSt (w.alloc (.cells #[.string c.name, .slice A1 c.vars.length c1, .slice A2 c.blocks.length c2, .slice A3 c.ins.length c3] 32)) W X S c (.slice A1 c.vars.length c1) (.slice A2 c.blocks.length c2) (.slice A3 c.ins.length c3) ss) : W.heap[w.heap.size]? = some (.cells #[.string c.name, .slice A1 c.vars.length c1, .slice A2 c.blocks.length c2, .slice A3 c.ins.length c3] 32 (0, 0)) :=
  (h.bel.block w.heap.size (by simp)).trans (heap_alloc_new w _)
theorem chk_bel {w W : World} {X S : Nat} {c : GCode} {A1 A2 A3 : Option Addr} {c1 c2 c3 : Nat} {ss : List GSpot} (h : ChkSt (w.alloc (.cells #[.string c.name, .slice A1 c.vars.length c1, .slice A2 c.blocks.length c2, .slice A3 c.ins.length c3] 32)) W X S c (.slice A1 c.vars.length c1) (.slice A2 c.blocks.length c2) (.slice A3 c.ins.length c3) ss) : Below w.heap.size w W ∧ w.heap.size < S :=
  ⟨(one_block w _).1.trans (h.bel.mono (by simp)), by have := h.lo; simp at this; omega⟩
theorem SpSt.spots {w W : World} {X S : Nat} {c : GCode} {A1 A2 A3 : Option Addr} {c1 c2 c3 k : Nat} {ss : List GSpot} (h : SpSt w W X S c A1 A2 A3 c1 c2 c3 k ss) : spotsB c = walkB c (c.ins.length + 1 - k) k ss := by
  unfold spotsB
  rw [if_pos h.right]; exact h.walk
theorem walk_next {c : GCode} {n k : Nat} {ss ss' : List GSpot} (hk : k < n) (h : stepAt c ss k = (ss', 0)) : walkB c (n - k) k ss = walkB c (n - (k + 1)) (k + 1) ss' := by
  obtain ⟨f, hf⟩ : ∃ f, n - k = f + 1 := ⟨n - k - 1, by omega⟩
  rw [hf, show n - (k + 1) = f by omega, walkB, h]
  rfl
theorem SpSt.next {w W : World} {X S : Nat} {c : GCode} {A1 A2 A3 : Option Addr} {c1 c2 c3 k : Nat} {ss : List GSpot} (h : SpSt w W X S c A1 A2 A3 c1 c2 c3 k ss) (hs : stepAt c ss k = (ss, 0)) (hk : k < c.ins.length) : SpSt w W X S c A1 A2 A3 c1 c2 c3 (k + 1) ss :=
  ⟨h.st, h.ok, by omega, h.right, h.walk.trans (walk_next (by omega) hs)⟩
theorem SpSt.last {w W : World} {X S : Nat} {c : GCode} {A1 A2 A3 : Option Addr} {c1 c2 c3 k : Nat} {ss ss' : List GSpot} (h : SpSt w W X S c A1 A2 A3 c1 c2 c3 k ss) (hs : stepAt c ss k = (ss', 0)) (hk : k = c.ins.length) : spotsB c = (ss', 0, 0) := by
  rw [h.spots, show c.ins.length + 1 - k = 1 by omega, walkB, hs]
  rfl
theorem SpSt.fin {w W : World} {X S : Nat} {c : GCode} {A1 A2 A3 : Option Addr} {c1 c2 c3 : Nat} {ss : List GSpot} (h : SpSt w W X S c A1 A2 A3 c1 c2 c3 c.ins.length ss) (hs : stepAt c ss c.ins.length = (ss, 0)) : SpotsPost c w (.returned (.tuple #[.slice (some ⟨S, 0, none⟩) ss.length ss.length, .int .i64 0, .int .i64 0])) W := by
  have e := h.last hs rfl
  unfold SpotsPost
  rw [e]
  exact ⟨_, rfl, .inr ⟨S, Nat.le_of_lt (chk_bel h.st).2, rfl, h.st.pl⟩, (chk_bel h.st).1⟩
theorem SpSt.bad {w W W3 : World} {X S : Nat} {c : GCode} {A1 A2 A3 : Option Addr} {c1 c2 c3 k : Nat} {ss : List GSpot} {er : Int} (h : SpSt w W X S c A1 A2 A3 c1 c2 c3 k ss) (hs : (stepAt c ss k).2 = er) (h0 : er ≠ 0) (hb : Below w.heap.size w W3) : SpotsPost c w (.returned (.tuple #[.slice none 0 0, .int .i64 (k : Int), .int .i64 er])) W3 := by
  have e : spotsB c = ([], k, er) := by
    have := h.k1
    rw [h.spots, show c.ins.length + 1 - k = (c.ins.length - k) + 1 by omega, walkB, hs, if_neg h0]
  unfold SpotsPost
  rw [e]
  exact ⟨_, rfl, .inl ⟨rfl, rfl⟩, hb⟩
theorem SpSt.go {w W W3 : World} {X S : Nat} {c : GCode} {A1 A2 A3 : Option Addr} {c1 c2 c3 k : Nat} {ss ss' : List GSpot} (h : SpSt w W X S c A1 A2 A3 c1 c2 c3 k ss) (hs : stepAt c ss k = (ss', 0)) (hC : ChkSt (w.alloc (.cells #[.string c.name, .slice A1 c.vars.length c1, .slice A2 c.blocks.length c2, .slice A3 c.ins.length c3] 32)) W3 X S c (.slice A1 c.vars.length c1) (.slice A2 c.blocks.length c2) (.slice A3 c.ins.length c3) ss') (hk : k < c.ins.length) : SpSt w W3 X S c A1 A2 A3 c1 c2 c3 (k + 1) ss' := by
  refine ⟨hC, ?_, by omega, h.right, h.walk.trans (walk_next (by omega) hs)⟩
  have := plc_step (k := k) h.ok (by rw [hs])
  rwa [hs] at this
theorem SpSt.end {w W W3 : World} {X S : Nat} {c : GCode} {A1 A2 A3 : Option Addr} {c1 c2 c3 : Nat} {ss ss' : List GSpot} (h : SpSt w W X S c A1 A2 A3 c1 c2 c3 c.ins.length ss) (hs : stepAt c ss c.ins.length = (ss', 0)) (hC : ChkSt (w.alloc (.cells #[.string c.name, .slice A1 c.vars.length c1, .slice A2 c.blocks.length c2, .slice A3 c.ins.length c3] 32)) W3 X S c (.slice A1 c.vars.length c1) (.slice A2 c.blocks.length c2) (.slice A3 c.ins.length c3) ss') : SpotsPost c w (.returned (.tuple #[.slice (some ⟨S, 0, none⟩) ss'.length ss'.length, .int .i64 0, .int .i64 0])) W3 := by
  have e := h.last hs rfl
  unfold SpotsPost
  rw [e]
  exact ⟨_, rfl, .inr ⟨S, Nat.le_of_lt (chk_bel hC).2, rfl, hC.pl⟩, (chk_bel hC).1⟩
set_option maxRecDepth 100000 in
set_option maxHeartbeats 8000000 in
theorem spots_any (c : GCode) (hw : c.Wf) (hn : (c.ins.length : Int) < 9223372036854775807) (vs bs is : Value) (w : World) (h : CodeRd w c vs bs is) :
    Calls Try.prog 20 #[.agg #[.string c.name, vs, bs, is]] w (SpotsPost c w) := by
  obtain ⟨A1, c1, rfl⟩ : ∃ A c', vs = .slice A c.vars.length c' := by obtain ⟨_, A, c', h, _⟩ := h.vars; exact ⟨A, c', h⟩
  obtain ⟨A2, c2, rfl⟩ : ∃ A c', bs = .slice A c.blocks.length c' := by obtain ⟨_, A, c', h, _⟩ := h.blocks; exact ⟨A, c', h⟩
  obtain ⟨A3, c3, rfl⟩ : ∃ A c', is = .slice A c.ins.length c' := by obtain ⟨_, A, c', h, _⟩ := h.ins; exact ⟨A, c', h⟩
  obtain ⟨hb0, s0, z0⟩ := one_block w (Obj.cells #[.string c.name, .slice A1 c.vars.length c1, .slice A2 c.blocks.length c2, .slice A3 c.ins.length c3] 32)
  have HRT := Fact.mk (right_any c hw hn _ _ _ _ (h.below hb0))
  have HB0 := Fact.mk hb0
  have S0 := Fact.mk s0
  have H := Fact.mk h
  have HN := Fact.mk hn
  clear h hb0 s0 hw
  cases hR : rightB c with
  | false =>
    have he : spotsB c = ([], 0, 130) := by unfold spotsB; rw [hR]; rfl
    unfold SpotsPost
    rw [he]
    rw [hR] at HRT
    clear he hR
    go_enter Try.func20, Try.ntmps20
    go_wp2
    go_step3
    go_wp2_with fail
    refine HRT.out.mono ?_
    rintro e W1 ⟨rfl, hb1⟩
    have B1 := Fact.mk (HB0.out.trans (hb1.mono HB0.out.size))
    clear hb1
    go_wp2
    simp only [Exit.noGoto_ret]
    go_ret3
    exact ⟨_, rfl, .inl ⟨rfl, rfl⟩, B1.out⟩
  | true =>
    have RP := Fact.mk hR
    rw [hR] at HRT
    clear hR
    have hlen := (right_parts RP.out).2.2.2.2.1
    have hlen1 := (right_parts RP.out).2.2.2.1
    have HI := Fact.mk (ins_ok RP.out)
    have HM := Fact.mk hlen
    go_enter Try.func20, Try.ntmps20
    go_wp2
    refine wp_scope_jumps 0 (fun a' w' => ∃ (X S k : Nat) (ss : List GSpot) (u8 u9 u10 u11 u12 u13 u14 u15 u16 u17 u18 u19 u20 u21 u22 u23 u24 u25 u26 u27 u28 u29 u30 u31 u32 u33 u34 u35 u36 u37 u38 u39 u40 u41 u42 u43 u44 u45 u46 u47 u48 u49 u50 : Value), a' = { tmps := #[.agg #[.string c.name, .slice A1 c.vars.length c1, .slice A2 c.blocks.length c2, .slice A3 c.ins.length c3], .pointer (some ⟨w.heap.size, 0, none⟩), .slice none 0 0, .int .i64 0, .int .i64 0, .pointer (some ⟨X, 0, none⟩), .int .i64 (k : Int), .int .i64 0, u8, u9, u10, u11, u12, u13, u14, u15, u16, u17, u18, u19, u20, u21, u22, u23, u24, u25, u26, u27, u28, u29, u30, u31, u32, u33, u34, u35, u36, u37, u38, u39, u40, u41, u42, u43, u44, u45, u46, u47, u48, u49, u50], defers := [] } ∧ Fact (SpSt w w' X S c A1 A2 A3 c1 c2 c3 k ss)) (fun a' _ => c.ins.length + 1 - (intOf (a'.tmps.getD 6 undef)).toNat) rfl ?_ ?_
    · go_wp2_with fail
      refine HRT.out.mono ?_
      rintro e W1 ⟨rfl, hb1⟩
      have B1 := Fact.mk hb1
      have S1 := Fact.mk ((hb1.block w.heap.size (by rw [z0]; omega)).trans S0.out)
      have hl1 : w.heap.size < W1.heap.size := by have := hb1.size; rw [z0] at this; omega
      have k0 : W1.cell? ⟨w.heap.size, 0, none⟩ = some (.string c.name) := by rw [cell_of_row _ _ 0 _ _ _ S1.out]; rfl
      have k1 : W1.cell? ⟨w.heap.size, 1, none⟩ = some (.slice A1 c.vars.length c1) := by rw [cell_of_row _ _ 1 _ _ _ S1.out]; rfl
      have k2 : W1.cell? ⟨w.heap.size, 2, none⟩ = some (.slice A2 c.blocks.length c2) := by rw [cell_of_row _ _ 2 _ _ _ S1.out]; rfl
      have k3 : W1.cell? ⟨w.heap.size, 3, none⟩ = some (.slice A3 c.ins.length c3) := by rw [cell_of_row _ _ 3 _ _ _ S1.out]; rfl
      clear hb1 HRT
      have hmk : ∀ W, (Instr.makeSlice 44 (.int .i64 ((c.ins.length : Int) + 1)) (.int .i64 ((c.ins.length : Int) + 1))).run Try.prog W = .ok (.slice (some ⟨W.heap.size, 0, none⟩) (c.ins.length + 1) (c.ins.length + 1)) (W.alloc (.cells (spRow (c.ins.length + 1)) 52)) := fun W => run_spots (c.ins.length + 1) (by omega) W
      go_wp2_with fail
      go_region
      clear hmk k0 k1 k2
      obtain ⟨t1, t2, t3, t4⟩ := two_blocks W1 (Obj.cells (spRow (c.ins.length + 1)) 52) (Obj.cells #[.string c.name, .slice A1 c.vars.length c1, .slice A2 c.blocks.length c2, .slice A3 c.ins.length c3, .slice (some ⟨W1.heap.size, 0, none⟩) (c.ins.length + 1) (c.ins.length + 1)] 91)
      obtain ⟨W2, hW2⟩ : ∃ W2, ((W1.alloc (Obj.cells (spRow (c.ins.length + 1)) 52)).alloc (Obj.cells #[.string c.name, .slice A1 c.vars.length c1, .slice A2 c.blocks.length c2, .slice A3 c.ins.length c3, .slice (some ⟨W1.heap.size, 0, none⟩) (c.ins.length + 1) (c.ins.length + 1)] 91)).drew = W2 := ⟨_, rfl⟩
      rw [hW2]
      replace t1 : Below W1.heap.size W1 W2 := hW2 ▸ t1.drew
      replace t2 : W2.heap[W1.heap.size]? = some (.cells (spRow (c.ins.length + 1)) 52 (0, 0)) := hW2 ▸ t2
      replace t3 : W2.heap[W1.heap.size + 1]? = some (.cells #[.string c.name, .slice A1 c.vars.length c1, .slice A2 c.blocks.length c2, .slice A3 c.ins.length c3, .slice (some ⟨W1.heap.size, 0, none⟩) (c.ins.length + 1) (c.ins.length + 1)] 91 (0, 0)) := hW2 ▸ t3
      have T1 := Fact.mk t1
      have T2 := Fact.mk t2
      have T3 := Fact.mk t3
      have k4 : W2.cell? ⟨W1.heap.size + 1, 4, none⟩ = some (.slice (some ⟨W1.heap.size, 0, none⟩) (c.ins.length + 1) (c.ins.length + 1)) := by rw [cell_of_row _ _ 4 _ _ _ t3]; rfl
      have c0 : W2.cell? ⟨W1.heap.size, 0, none⟩ = some (.bool false) := by rw [cell_of_row _ _ 0 _ _ _ t2]; unfold spRow; rw [List.replicate_succ, List.flatMap_cons]; rfl
      have f0 : W2.frozen? ⟨W1.heap.size, 0, none⟩ = false := frozen_of_row W2 W1.heap.size 0 _ _ t2
      have hp1 : (0 : Int) < (c.ins.length : Int) + 1 := by omega
      clear t1 t2 t3 t4 hW2 k3
      go_upto_region 5 with (fail)
      obtain ⟨W, hW⟩ : ∃ W, W2.setCell ⟨W1.heap.size, 0, none⟩ (.bool true) = W := ⟨_, rfl⟩
      rw [hW]
      have HS : Fact (SpSt w W (W1.heap.size + 1) W1.heap.size c A1 A2 A3 c1 c2 c3 0 (start c.ins.length)) := ⟨by
        have hb : Below (w.alloc (.cells #[.string c.name, .slice A1 c.vars.length c1, .slice A2 c.blocks.length c2, .slice A3 c.ins.length c3] 32)).heap.size (w.alloc (.cells #[.string c.name, .slice A1 c.vars.length c1, .slice A2 c.blocks.length c2, .slice A3 c.ins.length c3] 32)) W := by
          rw [← hW]
          exact (B1.out.trans (T1.out.mono B1.out.size)).setCell (by show _ ≤ W1.heap.size; rw [z0]; omega) _
        refine ⟨⟨?_, H.out.below HB0.out, hb, by rw [z0]; omega, by omega, plc_new T2.out (by rw [hW])⟩, plc_start c, Nat.zero_le _, RP.out, by rw [Nat.sub_zero]⟩
        rw [← hW, heap_setCell_other W2 ⟨W1.heap.size, 0, none⟩ (W1.heap.size + 1) _ (by show W1.heap.size + 1 ≠ W1.heap.size; omega), T3.out]
        simp [start]⟩
      clear hW k4 c0 f0 hp1
      have hlen3 : (start c.ins.length).length = c.ins.length + 1 := by simp [start]
      obtain ⟨v, cr, -, -, -, -, -, -, -⟩ := HS.out.st.pl.at 0 (by omega)
      replace cr : W.cell? ⟨W1.heap.size, 0, none⟩ = some (.bool true) := by rw [Nat.zero_mul] at cr; exact cr
      obtain ⟨-, -, -, -, k4⟩ := HS.out.st.chk.cells
      rw [hlen3] at k4
      have hp1 : (0 : Int) < (c.ins.length : Int) + 1 := by omega
      have hp2 : 0 < c.ins.length := by omega
      have hst : stepAt c (start c.ins.length) 0 = oneB c (start c.ins.length) 0 := rfl
      have HST := Fact.mk hst
      have one := one_any _ W (W1.heap.size + 1) W1.heap.size c _ _ _ _ HS.out.st 0 (Nat.zero_le _) HM.out HI.out HS.out.ok
      rw [show ((0 : Nat) : Int) = 0 from rfl] at one
      have ONE := Fact.mk one
      clear one hst hlen3
      go_wp2
      go_step3
      go_wp2_with fail
      refine ONE.out.mono ?_
      rintro e3 W3 ⟨rfl, hC3⟩
      have HC3 := Fact.mk hC3
      have k3 : W3.cell? ⟨w.heap.size, 3, none⟩ = some (.slice A3 c.ins.length c3) := by rw [cell_of_row _ _ 3 _ _ _ (chk_code HC3.out)]; rfl
      clear cr ONE hC3 k4 hp1
      obtain ⟨er, her⟩ : ∃ er, (oneB c (start c.ins.length) 0).2 = er := ⟨_, rfl⟩
      rw [her]
      by_cases h0 : er = 0
      · subst h0
        obtain ⟨ss', hss⟩ : ∃ ss', (oneB c (start c.ins.length) 0).1 = ss' := ⟨_, rfl⟩
        have HST2 : Fact (stepAt c (start c.ins.length) 0 = (ss', 0)) := ⟨by rw [HST.out, ← hss, ← her]⟩
        rw [hss] at HC3
        clear hss her
        go_wp2
        go_step3
        exact ⟨rfl, W1.heap.size + 1, W1.heap.size, 1, ss', _, _, _, _, _, _, _, _, _, _, _, _, _, _, _, _, _, _, _, _, _, _, _, _, _, _, _, _, _, _, _, _, _, _, _, _, _, _, _, _, _, _, _, rfl, ⟨HS.out.go HST2.out HC3.out hlen1⟩⟩
      · have hb : (er != 0) = true := bne_iff_ne.2 h0
        have HE := Fact.mk her
        clear her h0
        go_wp2
        simp only [Exit.jump]
        go_ret3
        exact HS.out.bad (by rw [HST.out, HE.out]) (bne_iff_ne.1 hb) (chk_bel HC3.out).1
    · rintro a' W ⟨X, S, k, ss, u8, u9, u10, u11, u12, u13, u14, u15, u16, u17, u18, u19, u20, u21, u22, u23, u24, u25, u26, u27, u28, u29, u30, u31, u32, u33, u34, u35, u36, u37, u38, u39, u40, u41, u42, u43, u44, u45, u46, u47, u48, u49, u50, rfl, HS⟩
      clear HRT
      have hlen := HS.out.ok.len
      have hkl := HS.out.k1
      obtain ⟨v, cr, -, -, -, -, -, -, -⟩ := HS.out.st.pl.at k (by omega)
      obtain ⟨-, -, -, -, k4⟩ := HS.out.st.chk.cells
      have k3 : W.cell? ⟨w.heap.size, 3, none⟩ = some (.slice A3 c.ins.length c3) := by rw [cell_of_row _ _ 3 _ _ _ (chk_code HS.out.st)]; rfl
      have hk' : (k : Int) < (ss.length : Int) := by omega
      have lX := HS.out.st.chk.lt
      cases hr : (spotAt ss k).reached with
      | false =>
        rw [hr] at cr
        have hst : stepAt c ss k = (ss, 0) := by unfold stepAt; rw [hr]; rfl
        have HST := Fact.mk hst
        clear hr hst hlen
        by_cases hkn : k < c.ins.length
        · go_wp2
          go_step3
          refine ⟨rfl, ⟨X, S, k + 1, ss, _, _, _, _, _, _, _, _, _, _, _, _, _, _, _, _, _, _, _, _, _, _, _, _, _, _, _, _, _, _, _, _, _, _, _, _, _, _, _, _, _, _, _, rfl, ⟨HS.out.next HST.out hkn⟩⟩, ?_⟩
          simp [intOf]; omega
        · obtain rfl : k = c.ins.length := by omega
          go_wp2
          simp only [Exit.jump]
          go_ret3
          exact HS.out.fin HST.out
      | true =>
        rw [hr] at cr
        have hst : stepAt c ss k = oneB c ss k := by unfold stepAt; rw [hr]; rfl
        have HST := Fact.mk hst
        have ONE := Fact.mk (one_any _ W X S c _ _ _ ss HS.out.st k hkl HM.out HI.out HS.out.ok)
        clear hr hst hlen
        go_wp2_with fail
        refine ONE.out.mono ?_
        rintro e3 W3 ⟨rfl, hC3⟩
        have HC3 := Fact.mk hC3
        have CD : Fact (W3.heap[w.heap.size]? = some (.cells #[.string c.name, .slice A1 c.vars.length c1, .slice A2 c.blocks.length c2, .slice A3 c.ins.length c3] 32 (0, 0))) := ⟨chk_code HC3.out⟩
        have k3 : W3.cell? ⟨w.heap.size, 3, none⟩ = some (.slice A3 c.ins.length c3) := by rw [cell_of_row _ _ 3 _ _ _ CD.out]; rfl
        clear cr ONE hC3
        obtain ⟨er, her⟩ : ∃ er, (oneB c ss k).2 = er := ⟨_, rfl⟩
        rw [her]
        by_cases h0 : er = 0
        · subst h0
          obtain ⟨ss', hss⟩ : ∃ ss', (oneB c ss k).1 = ss' := ⟨_, rfl⟩
          have HST2 : Fact (stepAt c ss k = (ss', 0)) := ⟨by rw [HST.out, ← hss, ← her]⟩
          rw [hss] at HC3
          obtain ⟨-, -, -, -, k5⟩ := HC3.out.chk.cells
          clear hss her
          by_cases hkn : k < c.ins.length
          · go_wp2
            go_step3
            refine ⟨rfl, ⟨X, S, k + 1, ss', _, _, _, _, _, _, _, _, _, _, _, _, _, _, _, _, _, _, _, _, _, _, _, _, _, _, _, _, _, _, _, _, _, _, _, _, _, _, _, _, _, _, _, rfl, ⟨HS.out.go HST2.out HC3.out hkn⟩⟩, ?_⟩
            simp [intOf]; omega
          · obtain rfl : k = c.ins.length := by omega
            go_wp2
            simp only [Exit.jump]
            go_ret3
            exact HS.out.end HST2.out HC3.out
        · have hb : (er != 0) = true := bne_iff_ne.2 h0
          have HE := Fact.mk her
          clear her h0
          go_wp2
          simp only [Exit.jump]
          go_ret3
          exact HS.out.bad (by rw [HST.out, HE.out]) (bne_iff_ne.1 hb) (chk_bel HC3.out).1

end Go.Proofs.Ythiapebodpkamaa

