/- CheckDead: the walk. -/
import Derived.Test.YthiapebodpkamaaDeadP
import Derived.Test.YthiapebodpkamaaJoins
import Derived.Test.YthiapebodpkamaaStore
import Derived.Deep.RegionHeld3
import Derived.Deep.DeepCutAuto
import Derived.Deep.QuietTactic
import Derived.BigQuiet
namespace Go.Proofs.Ythiapebodpkamaa
open Go.RowKit
theorem insInfo : ∃ i, Try.prog.info? 38 = some i ∧ i.zero = some (.agg #[.int .u8 0, .int .u8 0, .int .i64 0, .int .i64 0]) ∧ i.size = 4 ∧ i.bytes = 24 := by
  have h : (Try.prog.info? 38).map (fun i => (i.zero, i.size, i.bytes)) = some (some (.agg #[.int .u8 0, .int .u8 0, .int .i64 0, .int .i64 0]), 4, 24) := by kernel_rfl
  obtain ⟨i, h1, h2⟩ := Option.map_eq_some_iff.1 h
  simp only [Prod.mk.injEq] at h2
  exact ⟨i, h1, h2.1, h2.2.1, h2.2.2⟩
theorem ins_one (y : GIns) : ∀ u ∈ encIns y, u.oneCell' = true := by
  intro u hu
  simp only [encIns, List.mem_cons, List.not_mem_nil, or_false] at hu
  rcases hu with rfl | rfl | rfl | rfl <;> rfl
theorem own_empty {w : World} {m : Nat} (hm : m = w.heap.size) {B : Nat} (h : B ≤ m) : Own 38 4 encIns (w.alloc (.cells #[] 38)) B (.slice (some ⟨m, 0, none⟩) 0 0) ([] : List GIns) := by
  subst hm
  exact row_new0 w B h 38 4
theorem own_some {α : Type} {E : TypeId} {k : Nat} {enc : α → List Value} {w : World} {B : Nat} {v : Value} {xs : List α} (h : Own E k enc w B v xs) (hp : 0 < xs.length) : ∃ g cap cur, v = .slice (some ⟨g, 0, none⟩) xs.length cap ∧ B ≤ g ∧ w.heap[g]? = some (.cells cur E (0, 0)) := by
  rcases h.2 with ⟨_, h0⟩ | ⟨g, cap, cur, hv, hg, hh, _⟩
  · omega
  · exact ⟨g, cap, cur, hv, hg, hh⟩
/-- A whole instruction stored into a row of the call's own. -/
theorem own_set4 {w : World} {B g cap : Nat} {xs : List GIns} (h : Own 38 4 encIns w B (.slice (some ⟨g, 0, none⟩) xs.length cap) xs) {k : Nat} (hk : k < xs.length) (y : GIns) :
    Own 38 4 encIns ((((w.setCell ⟨g, k * 4, none⟩ (.int .u8 y.op)).setCell ⟨g, k * 4 + 1, none⟩ (.int .u8 y.t)).setCell ⟨g, k * 4 + 2, none⟩ (.int .i64 y.a)).setCell ⟨g, k * 4 + 3, none⟩ (.int .i64 y.n)) B (.slice (some ⟨g, 0, none⟩) xs.length cap) (xs.set k y) := by
  have h1 := Own.store encIns_len h k hk 0 (by decide) ⟨y.op, xs[k].t, xs[k].a, xs[k].n⟩ (.int .u8 y.op) rfl
  have l1 : (xs.set k ⟨y.op, xs[k].t, xs[k].a, xs[k].n⟩).length = xs.length := List.length_set
  rw [← l1] at h1
  have h2 := Own.store encIns_len h1 k (by rw [l1]; exact hk) 1 (by decide) ⟨y.op, y.t, xs[k].a, xs[k].n⟩ (.int .u8 y.t) (by rw [List.getElem_set_self]; rfl)
  rw [List.set_set] at h2
  have l2 : (xs.set k ⟨y.op, y.t, xs[k].a, xs[k].n⟩).length = xs.length := List.length_set
  rw [l1, ← l2] at h2
  have h3 := Own.store encIns_len h2 k (by rw [l2]; exact hk) 2 (by decide) ⟨y.op, y.t, y.a, xs[k].n⟩ (.int .i64 y.a) (by rw [List.getElem_set_self]; rfl)
  rw [List.set_set] at h3
  have l3 : (xs.set k ⟨y.op, y.t, y.a, xs[k].n⟩).length = xs.length := List.length_set
  rw [l2, ← l3] at h3
  have h4 := Own.store encIns_len h3 k (by rw [l3]; exact hk) 3 (by decide) y (.int .i64 y.n) (by rw [List.getElem_set_self]; rfl)
  rw [List.set_set, l3] at h4
  exact h4
theorem bel_drewN {B : Nat} {w w' : World} (h : Below B w w') (n : Nat) : Below B w (w'.drewN n) := by
  induction n with
  | zero => exact h
  | succ n ih => exact ih.drew
theorem row4 {w : World} {g : Nat} {a b c d : Value} {T : TypeId} (h : w.heap[g]? = some (.cells #[a, b, c, d] T (0, 0))) : w.cell? ⟨g, 0, none⟩ = some a ∧ w.cell? ⟨g, 1, none⟩ = some b ∧ w.cell? ⟨g, 2, none⟩ = some c ∧ w.cell? ⟨g, 3, none⟩ = some d :=
  ⟨by rw [cell_of_row _ _ 0 _ _ _ h]; rfl, by rw [cell_of_row _ _ 1 _ _ _ h]; rfl, by rw [cell_of_row _ _ 2 _ _ _ h]; rfl, by rw [cell_of_row _ _ 3 _ _ _ h]; rfl⟩
theorem own_row {w : World} {B g cap : Nat} {xs : List GIns} (h : Own 38 4 encIns w B (.slice (some ⟨g, 0, none⟩) xs.length cap) xs) {k : Nat} (hk : k < xs.length) :
    w.cell? ⟨g, k * 4, none⟩ = some (.int .u8 xs[k].op) ∧ w.cell? ⟨g, k * 4 + 1, none⟩ = some (.int .u8 xs[k].t) ∧ w.cell? ⟨g, k * 4 + 2, none⟩ = some (.int .i64 xs[k].a) ∧ w.cell? ⟨g, k * 4 + 3, none⟩ = some (.int .i64 xs[k].n) := by
  obtain ⟨_, A, c, e, _, _, hc⟩ := h.rd encIns_len
  obtain ⟨b, off, e2, hc⟩ := hc (by omega)
  injection e with e3 _ _
  rw [← e3] at e2
  injection e2 with e2
  injection e2 with e4 e5 _
  subst e4
  subst e5
  have q := hc k hk
  simp only [Nat.zero_add] at q
  exact ⟨q 0 _ rfl, q 1 _ rfl, q 2 _ rfl, q 3 _ rfl⟩
theorem own_frz {w : World} {B g cap : Nat} {xs : List GIns} (h : Own 38 4 encIns w B (.slice (some ⟨g, 0, none⟩) xs.length cap) xs) {k : Nat} (_ : k < xs.length) :
    w.frozen? ⟨g, k * 4, none⟩ = false ∧ w.frozen? ⟨g, k * 4 + 1, none⟩ = false ∧ w.frozen? ⟨g, k * 4 + 2, none⟩ = false ∧ w.frozen? ⟨g, k * 4 + 3, none⟩ = false := by
  obtain ⟨_, cur, hh⟩ := own_typed h g rfl
  exact ⟨frozen_of_row _ _ _ _ _ hh, frozen_of_row _ _ _ _ _ hh, frozen_of_row _ _ _ _ _ hh, frozen_of_row _ _ _ _ _ hh⟩
set_option maxRecDepth 100000 in
set_option maxHeartbeats 8000000 in
theorem dead_any (c : GCode) (hw : c.Wf) (vs bs is : Value) (at_ : Int) (ha0 : 0 ≤ at_) (ha1 : at_ ≤ 65535) (w : World) (h : CodeRd w c vs bs is) (hnm : c.name.size ≤ 9223372036854775807) (hnms : ∀ x ∈ c.vars, x.name.size ≤ 9223372036854775807) :
    Calls Try.prog 9 #[.agg #[.string c.name, vs, bs, is], .int .u16 at_] w fun e w' => e = .returned (.bool true) ∧ Below w.heap.size w w' := by
  obtain ⟨A1, c1, rfl⟩ : ∃ A c', vs = .slice A c.vars.length c' := by obtain ⟨_, A, c', h, _⟩ := h.vars; exact ⟨A, c', h⟩
  obtain ⟨A2, c2, rfl⟩ : ∃ A c', bs = .slice A c.blocks.length c' := by obtain ⟨_, A, c', h, _⟩ := h.blocks; exact ⟨A, c', h⟩
  obtain ⟨A3, c3, rfl⟩ : ∃ A c', is = .slice A c.ins.length c' := by obtain ⟨_, A, c', h, _⟩ := h.ins; exact ⟨A, c', h⟩
  have BEL : Fact (Below w.heap.size w (boxed w c A1 A2 A3 c1 c2 c3)) := ⟨(one_block w _).1⟩
  have H := Fact.mk (h.below BEL.out)
  have GR := Fact.mk (great_any c _ _ _ _ H.out hnm hnms)
  have HW := Fact.mk hw
  clear h hw hnm hnms
  go_enter Try.func9, Try.ntmps9
  go_wp2_with fail
  refine GR.out.mono ?_
  rintro e W0 ⟨g, rfl, hg, hb0⟩
  have BB := Fact.mk hb0
  clear hb0 GR
  obtain ⟨k0, k1, k2, k3⟩ : W0.cell? ⟨w.heap.size, 0, none⟩ = some (.string c.name) ∧ W0.cell? ⟨w.heap.size, 1, none⟩ = some (.slice A1 c.vars.length c1) ∧ W0.cell? ⟨w.heap.size, 2, none⟩ = some (.slice A2 c.blocks.length c2) ∧ W0.cell? ⟨w.heap.size, 3, none⟩ = some (.slice A3 c.ins.length c3) := code_cells BB.out
  cases g with
  | true =>
    clear hg
    go_wp2_with fail
    refine (awk14_any _).mono ?_
    rintro e W9 ⟨rfl, hb9⟩
    have B9 := Fact.mk (BB.out.trans (hb9.mono BB.out.size))
    clear hb9
    go_wp2
    go_ret
    exact ⟨rfl, BEL.out.trans (B9.out.mono BEL.out.size)⟩
  | false =>
    obtain ⟨-, -, g3, -⟩ := hg rfl
    have hn9 : (c.ins.length : Int) < 9223372036854775807 := by omega
    have SP := Fact.mk (spots_any c HW.out hn9 _ _ _ _ (H.out.below BB.out))
    clear hg
    go_wp2_with fail
    refine SP.out.mono ?_
    rintro e W1 ⟨v, rfl, hsp, hb1⟩
    have BB2 := Fact.mk (BB.out.trans (hb1.mono BB.out.size))
    have STP := Fact.mk (fun (W : World) (hW : Below (boxed w c A1 A2 A3 c1 c2 c3).heap.size (boxed w c A1 A2 A3 c1 c2 c3) W) => steps_any c HW.out hn9 _ _ _ W (H.out.below hW))
    clear hb1 SP BB k0 k1 k2 k3
    obtain ⟨k0, k1, k2, k3⟩ : W1.cell? ⟨w.heap.size, 0, none⟩ = some (.string c.name) ∧ W1.cell? ⟨w.heap.size, 1, none⟩ = some (.slice A1 c.vars.length c1) ∧ W1.cell? ⟨w.heap.size, 2, none⟩ = some (.slice A2 c.blocks.length c2) ∧ W1.cell? ⟨w.heap.size, 3, none⟩ = some (.slice A3 c.ins.length c3) := code_cells BB2.out
    obtain ⟨er, her⟩ : ∃ er, (spotsB c).2.2 = er := ⟨_, rfl⟩
    rw [her]
    by_cases h0 : er = 0
    · subst h0
      have OK := Fact.mk her
      obtain ⟨S, rfl, hpl⟩ : ∃ S, v = .slice (some ⟨S, 0, none⟩) (spotsB c).1.length (spotsB c).1.length ∧ Places W1 S (spotsB c).1 := by
        rcases hsp with ⟨_, h⟩ | ⟨S, _, h1, h2⟩
        · have := (spots_plc her).len
          rw [h] at this; simp at this
        · exact ⟨S, h1, h2⟩
      have hlen := (spots_plc her).len
      rw [hlen]
      have PL := Fact.mk hpl
      have hn1 : c.ins.length ≤ 2000 := (right_parts (spots_right her)).2.2.2.2.1
      have hn0 : 1 ≤ c.ins.length := (right_parts (spots_right her)).2.2.2.1
      have HLEN := Fact.mk hlen
      have hz : ((c.ins.length : Int) == 0) = false := beq_eq_false_iff_ne.2 (by omega)
      obtain ⟨k, hk, hkn⟩ : ∃ k : Nat, Int.tmod at_ (c.ins.length : Int) = k ∧ k < c.ins.length := by
        refine ⟨at_.toNat % c.ins.length, ?_, Nat.mod_lt _ (by omega)⟩
        rw [Int.tmod_eq_emod_of_nonneg ha0]
        conv => lhs; rw [← Int.toNat_of_nonneg ha0]
        exact (Int.natCast_emod _ _).symm
      have hk1 : k < c.ins.length + 1 := by omega
      obtain ⟨pv, cr, cs, cm, -, -, -, -, -⟩ := PL.out.at k (by rw [HLEN.out]; omega)
      obtain ⟨rk, hrk⟩ : ∃ r, (spotAt (spotsB c).1 k).reached = r := ⟨_, rfl⟩
      rw [hrk] at cr
      have RK := Fact.mk hrk
      clear hsp hpl hlen her hrk
      cases rk with
      | true =>
        go_wp2_with fail
        refine (awk14_any _).mono ?_
        rintro e W9 ⟨rfl, hb9⟩
        have B9 := Fact.mk (BB2.out.trans (hb9.mono BB2.out.size))
        clear hb9
        go_wp2
        go_ret
        exact ⟨rfl, BEL.out.trans (B9.out.mono BEL.out.size)⟩
      | false =>
        obtain ⟨i0, hi, hz0, hz1, hz2⟩ := insInfo
        have RI := Fact.mk (H.out.below BB2.out).ins
        have lw1 : w.heap.size < W1.heap.size := by have := BB2.out.size; simp at this; omega
        clear hn9 cs cm g3
        go_wp2_with (at_builtin; refine wpList_append_rd rfl _ _ 30 rfl W1.heap.size 38 i0 (.agg #[.int .u8 0, .int .u8 0, .int .i64 0, .int .i64 0]) 4 24 Try.underlying30 hi hz0 hz1 hz2 rfl (by decide) (by decide) encIns encIns_len ins_one _ [] rfl (own_empty (by simp) (by omega)) _ c.ins rfl ((RI.out.below (one_block W1 _).1).below (one_block _ _).1) (by simp; omega) (by simp; omega) ?_)
        intro v' W2 ho hr
        have bx : ((W1.alloc (Obj.cells #[.string c.name, .slice A1 c.vars.length c1, .slice A2 c.blocks.length c2, .slice A3 c.ins.length c3] 32)).alloc (Obj.cells #[] 38)).heap[W1.heap.size]? = some (.cells #[.string c.name, .slice A1 c.vars.length c1, .slice A2 c.blocks.length c2, .slice A3 c.ins.length c3] 32 (0, 0)) := (two_blocks W1 _ _).2.1
        have hbx : W2.heap[W1.heap.size]? = some (.cells #[.string c.name, .slice A1 c.vars.length c1, .slice A2 c.blocks.length c2, .slice A3 c.ins.length c3] 32 (0, 0)) := (hr.g.block W1.heap.size (Array.getElem?_eq_some_iff.1 bx).1 (fun e => by simp [Value.ownBlock] at e)).trans bx
        have hb2 : Below W1.heap.size W1 W2 := ((two_blocks W1 _ _).1).grown hr.g (two_blocks W1 _ _).1.size (fun k hk => by simp [Value.ownBlock] at hk; omega)
        obtain ⟨g, cap, cur, rfl, hg, hh⟩ := own_some ho (by omega)
        have hgne : g ≠ W1.heap.size := fun e => by
          rw [e, hbx] at hh
          injection hh with hh
          injection hh with _ e2 _
          exact absurd e2 (by decide)
        obtain ⟨d3, f3⟩ : W2.cell? ⟨W1.heap.size, 3, none⟩ = some (.slice A3 c.ins.length c3) ∧ W2.frozen? ⟨W1.heap.size, 3, none⟩ = false := ⟨by rw [cell_of_row _ _ 3 _ _ _ hbx]; rfl, frozen_of_row _ _ 3 _ _ hbx⟩
        have HBX := Fact.mk hbx
        have HB2 := Fact.mk hb2
        have HO := Fact.mk ho
        have HH := Fact.mk hh
        have HGN := Fact.mk hgne
        clear hbx hb2 ho hh hr bx hgne
        go_upto_region 13 with (fail)
        have hbx3 := set4_3 (u := .slice (some ⟨g, 0, none⟩) c.ins.length cap) HBX.out
        have ho3 := HO.out.set HBX.out (by decide) 3 (.slice (some ⟨g, 0, none⟩) c.ins.length cap)
        have hb3 := HB2.out.setCell (p := ⟨W1.heap.size, 3, none⟩) (Nat.le_refl _) (.slice (some ⟨g, 0, none⟩) c.ins.length cap)
        clear d3 f3 HBX HB2 HO HH
        generalize W2.setCell ⟨W1.heap.size, 3, none⟩ (.slice (some ⟨g, 0, none⟩) c.ins.length cap) = W3 at hbx3 ho3 hb3 ⊢
        obtain ⟨r0, r1, r2, r3⟩ := own_row ho3 hkn
        obtain ⟨f0, f1, f2, f3⟩ := own_frz ho3 hkn
        have d3 : W3.cell? ⟨W1.heap.size, 3, none⟩ = some (.slice (some ⟨g, 0, none⟩) c.ins.length cap) := by rw [cell_of_row _ _ 3 _ _ _ hbx3]; rfl
        have HBX := Fact.mk hbx3
        have HB3 := Fact.mk hb3
        have HO := Fact.mk ho3
        clear hbx3 ho3 hb3
        go_upto_region 14 with (fail)
        have ho4 := own_set4 HO.out hkn endIns
        have nb := fun (w : World) (j : Nat) (u : Value) => Below.heap_setCell w ⟨g, j, none⟩ u W1.heap.size HGN.out.symm
        have hbx4 := (nb _ (k * 4 + 3) (.int .i64 0)).trans ((nb _ (k * 4 + 2) (.int .i64 0)).trans ((nb _ (k * 4 + 1) (.int .u8 0)).trans ((nb _ (k * 4) (.int .u8 22)).trans HBX.out)))
        have hb4 := (((HB3.out.setCell (p := ⟨g, k * 4, none⟩) hg (.int .u8 22)).setCell (p := ⟨g, k * 4 + 1, none⟩) hg (.int .u8 0)).setCell (p := ⟨g, k * 4 + 2, none⟩) hg (.int .i64 0)).setCell (p := ⟨g, k * 4 + 3, none⟩) hg (.int .i64 0)
        change Own _ _ _ ((((W3.setCell ⟨g, k * 4, none⟩ (.int .u8 22)).setCell ⟨g, k * 4 + 1, none⟩ (.int .u8 0)).setCell ⟨g, k * 4 + 2, none⟩ (.int .i64 0)).setCell ⟨g, k * 4 + 3, none⟩ (.int .i64 0)) _ _ _ at ho4
        clear r0 r1 r2 r3 f0 f1 f2 f3 d3 nb HBX HB3 HO
        generalize (((W3.setCell ⟨g, k * 4, none⟩ (.int .u8 22)).setCell ⟨g, k * 4 + 1, none⟩ (.int .u8 0)).setCell ⟨g, k * 4 + 2, none⟩ (.int .i64 0)).setCell ⟨g, k * 4 + 3, none⟩ (.int .i64 0) = W4 at hbx4 ho4 hb4 ⊢
        have BB4 := Fact.mk (BB2.out.trans (hb4.mono BB2.out.size))
        have RDD : Fact (CodeRd W4 (deadB c k) (.slice A1 c.vars.length c1) (.slice A2 c.blocks.length c2) (.slice (some ⟨g, 0, none⟩) c.ins.length cap)) := ⟨⟨(H.out.below BB4.out).vars, (H.out.below BB4.out).blocks, ho4.rd encIns_len⟩⟩
        have HB4 := Fact.mk hb4
        have HBX := Fact.mk hbx4
        clear ho4 hb4 hbx4
        obtain ⟨d0, d1, d2, d3⟩ := row4 HBX.out
        have WFD : Fact (deadB c k).Wf := ⟨⟨HW.out.vars, HW.out.blocks, fun i hi => by
          rcases List.mem_or_eq_of_mem_set hi with h | h
          · exact HW.out.ins i h
          · rw [h]; exact end_wf⟩⟩
        have hnd : Fact (((deadB c k).ins.length : Int) < 9223372036854775807) := ⟨by rw [dead_len]; omega⟩
        go_wp2_with fail
        refine (spots_any (deadB c k) WFD.out hnd.out _ _ _ _ RDD.out).mono ?_
        rintro e W5 ⟨v2, rfl, hsp2, hb5⟩
        rw [dead_spots OK.out RK.out] at hsp2 ⊢
        rw [OK.out]
        obtain ⟨S2, rfl, hpl2⟩ : ∃ S2, v2 = .slice (some ⟨S2, 0, none⟩) (spotsB c).1.length (spotsB c).1.length ∧ Places W5 S2 (spotsB c).1 := by
          rcases hsp2 with ⟨_, h⟩ | ⟨S, _, h1, h2⟩
          · have := HLEN.out
            rw [h] at this; simp at this
          · exact ⟨S, h1, h2⟩
        rw [HLEN.out]
        have PL2 := Fact.mk hpl2
        have BB5 := Fact.mk (BB4.out.trans (hb5.mono BB4.out.size))
        obtain ⟨sr, hsr⟩ : ∃ sr, stepsB c = sr := ⟨_, rfl⟩
        have lw4 : W1.heap.size < W4.heap.size := (Array.getElem?_eq_some_iff.1 HBX.out).1
        have B5 := Fact.mk hb5
        have KEEP : Fact (∀ W' : World, Below W5.heap.size W5 W' → ((W'.cell? ⟨w.heap.size, 0, none⟩ = some (.string c.name) ∧ W'.cell? ⟨w.heap.size, 1, none⟩ = some (.slice A1 c.vars.length c1) ∧ W'.cell? ⟨w.heap.size, 2, none⟩ = some (.slice A2 c.blocks.length c2) ∧ W'.cell? ⟨w.heap.size, 3, none⟩ = some (.slice A3 c.ins.length c3)) ∧ (W'.cell? ⟨W1.heap.size, 0, none⟩ = some (.string c.name) ∧ W'.cell? ⟨W1.heap.size, 1, none⟩ = some (.slice A1 c.vars.length c1) ∧ W'.cell? ⟨W1.heap.size, 2, none⟩ = some (.slice A2 c.blocks.length c2) ∧ W'.cell? ⟨W1.heap.size, 3, none⟩ = some (.slice (some ⟨g, 0, none⟩) c.ins.length cap)) ∧ Below W5.heap.size W5 W')) :=
          ⟨fun W' hW => ⟨code_cells (BB5.out.trans (hW.mono BB5.out.size)), row4 (((B5.out.trans (hW.mono B5.out.size)).block W1.heap.size lw4).trans HBX.out), hW⟩⟩
        have STC : Fact (∀ W' : World, ((W'.cell? ⟨w.heap.size, 0, none⟩ = some (.string c.name) ∧ W'.cell? ⟨w.heap.size, 1, none⟩ = some (.slice A1 c.vars.length c1) ∧ W'.cell? ⟨w.heap.size, 2, none⟩ = some (.slice A2 c.blocks.length c2) ∧ W'.cell? ⟨w.heap.size, 3, none⟩ = some (.slice A3 c.ins.length c3)) ∧ (W'.cell? ⟨W1.heap.size, 0, none⟩ = some (.string c.name) ∧ W'.cell? ⟨W1.heap.size, 1, none⟩ = some (.slice A1 c.vars.length c1) ∧ W'.cell? ⟨W1.heap.size, 2, none⟩ = some (.slice A2 c.blocks.length c2) ∧ W'.cell? ⟨W1.heap.size, 3, none⟩ = some (.slice (some ⟨g, 0, none⟩) c.ins.length cap)) ∧ Below W5.heap.size W5 W') → Calls Try.prog 22 #[.agg #[.string c.name, .slice A1 c.vars.length c1, .slice A2 c.blocks.length c2, .slice A3 c.ins.length c3]] W' fun e w' => e = .returned (.int .i64 sr) ∧ Below W5.heap.size W5 w') :=
          ⟨fun W' hW => hsr ▸ (STP.out W' (BB5.out.trans (hW.2.2.mono BB5.out.size))).mono fun e w' h => ⟨h.1, hW.2.2.trans (h.2.mono hW.2.2.size)⟩⟩
        have STD : Fact (∀ W' : World, ((W'.cell? ⟨w.heap.size, 0, none⟩ = some (.string c.name) ∧ W'.cell? ⟨w.heap.size, 1, none⟩ = some (.slice A1 c.vars.length c1) ∧ W'.cell? ⟨w.heap.size, 2, none⟩ = some (.slice A2 c.blocks.length c2) ∧ W'.cell? ⟨w.heap.size, 3, none⟩ = some (.slice A3 c.ins.length c3)) ∧ (W'.cell? ⟨W1.heap.size, 0, none⟩ = some (.string c.name) ∧ W'.cell? ⟨W1.heap.size, 1, none⟩ = some (.slice A1 c.vars.length c1) ∧ W'.cell? ⟨W1.heap.size, 2, none⟩ = some (.slice A2 c.blocks.length c2) ∧ W'.cell? ⟨W1.heap.size, 3, none⟩ = some (.slice (some ⟨g, 0, none⟩) c.ins.length cap)) ∧ Below W5.heap.size W5 W') → Calls Try.prog 22 #[.agg #[.string c.name, .slice A1 c.vars.length c1, .slice A2 c.blocks.length c2, .slice (some ⟨g, 0, none⟩) c.ins.length cap]] W' fun e w' => e = .returned (.int .i64 sr) ∧ Below W5.heap.size W5 w') :=
          ⟨fun W' hW => (dead_steps OK.out RK.out).trans hsr ▸ (steps_any (deadB c k) WFD.out hnd.out _ _ _ W' (RDD.out.below (B5.out.trans (hW.2.2.mono B5.out.size)))).mono fun e w' h => ⟨h.1, hW.2.2.trans (h.2.mono hW.2.2.size)⟩⟩
        have e0 : (sr != sr) = false := bne_self_eq_false sr
        have en : ((c.ins.length : Int) + 1 != (c.ins.length : Int) + 1) = false := bne_self_eq_false _
        have hS5 := KEEP.out _ (Below.refl _ _)
        clear hb5 hsp2 hpl2 k0 k1 k2 k3 d0 d1 d2 d3 hsr STP cr
        obtain ⟨⟨k0, k1, k2, k3⟩, ⟨d0, d1, d2, d3⟩, -⟩ := hS5
        go_upto_region 15 with (fail)
        go_region_held3 (fun W' => ((W'.cell? ⟨w.heap.size, 0, none⟩ = some (.string c.name) ∧ W'.cell? ⟨w.heap.size, 1, none⟩ = some (.slice A1 c.vars.length c1) ∧ W'.cell? ⟨w.heap.size, 2, none⟩ = some (.slice A2 c.blocks.length c2) ∧ W'.cell? ⟨w.heap.size, 3, none⟩ = some (.slice A3 c.ins.length c3)) ∧ (W'.cell? ⟨W1.heap.size, 0, none⟩ = some (.string c.name) ∧ W'.cell? ⟨W1.heap.size, 1, none⟩ = some (.slice A1 c.vars.length c1) ∧ W'.cell? ⟨W1.heap.size, 2, none⟩ = some (.slice A2 c.blocks.length c2) ∧ W'.cell? ⟨W1.heap.size, 3, none⟩ = some (.slice (some ⟨g, 0, none⟩) c.ins.length cap)) ∧ Below W5.heap.size W5 W'))
          (first | exact KEEP.out _ (Below.refl _ _).drew | (refine KEEP.out _ ?_; assumption))
          (first | (go_at_call 22; (with_reducible refine (STC.out _ (by assumption)).mono ?_); rintro e W6 ⟨rfl, hb6⟩) | (go_at_call 22; (with_reducible refine (STD.out _ (by assumption)).mono ?_); rintro e W6 ⟨rfl, hb6⟩))
        all_goals
          rename_i hK6
          have PA := Fact.mk (PL.out.below (HB4.out.trans ((B5.out.trans (hb6.mono B5.out.size)).mono HB4.out.size)))
          have PB := Fact.mk (PL2.out.below hb6)
          have B6 := Fact.mk (BB5.out.trans (hb6.mono BB5.out.size))
          clear hb6 hK6 KEEP STC STD e0 en k0 k1 k2 k3 d0 d1 d2 d3
          go_wp2_with fail
          go_loopw [80] (fun i wr => ∃ j : Nat, j ≤ c.ins.length + 1 ∧ i = .int .i64 j ∧ Fact (Below W6.heap.size W6 wr)) (fun i _ => c.ins.length + 1 - (intOf i).toNat)
          case atStart => exact ⟨0, Nat.zero_le _, rfl, ⟨Below.refl _ _⟩⟩
          case round =>
            obtain ⟨j, hj, rfl, hbr⟩ := hrel
            by_cases hlt : j < c.ins.length + 1
            · obtain ⟨q1, a0, a1, a2, ra, -, -, -, -⟩ := (PA.out.below hbr.out).at j (by rw [HLEN.out]; exact hlt)
              obtain ⟨q2, b0, b1, b2, rb, -, -, -, -⟩ := (PB.out.below hbr.out).at j (by rw [HLEN.out]; exact hlt)
              have SAME : Fact (∀ n, Calls Try.prog 26 #[q1, q2] (wr.drewN n) fun e w' => e = .returned (.bool true) ∧ ∃ m, w' = (wr.drewN n).drewN m) :=
                ⟨fun n => (same14_any (wr.drewN n) _ _ _ _ (ra.move fun a u h => h) (rb.move fun a u h => h)).mono fun e w' h => ⟨by rw [h.1, decide_eq_true rfl], h.2⟩⟩
              obtain ⟨st, hst⟩ : ∃ st, (spotAt (spotsB c).1 j).steps = st := ⟨_, rfl⟩
              obtain ⟨rr, hrr⟩ : ∃ rr, (spotAt (spotsB c).1 j).reached = rr := ⟨_, rfl⟩
              rw [hst] at a2 b2
              rw [hrr] at a0 b0
              have i1 : (j : Int) < ((c.ins.length + 1 : Nat) : Int) := by omega
              have i2 : (j : Int) < (c.ins.length : Int) + 1 := by omega
              have e0 : (st != st) = false := bne_self_eq_false st
              have e1 : (rr != rr) = false := bne_self_eq_false rr
              clear ra rb hst hrr
              go_wp2_with fail
              go_quiet ((go_at_call 26; exact Calls.quiet_of (SAME.out _)))
              clear a0 a1 a2 b0 b1 b2 SAME i1 i2
              go_wp2_with fail
              go_roundw
              case rel => exact ⟨j + 1, by omega, by go_num, ⟨bel_drewN hbr.out _⟩⟩
              case measure => simp [intOf]; omega
            · obtain rfl : j = c.ins.length + 1 := by omega
              go_wp2_with fail
              refine (awk14_any _).mono ?_
              rintro e W9 ⟨rfl, hb9⟩
              have B9 := Fact.mk ((B6.out.trans (hbr.out.mono B6.out.size)).trans (hb9.mono (Nat.le_trans B6.out.size hbr.out.size)))
              clear hb9
              go_wp2
              go_ret
              exact ⟨rfl, BEL.out.trans (B9.out.mono BEL.out.size)⟩
    · have e6 : (er != 0) = true := bne_iff_ne.2 h0
      clear hsp her
      go_wp2_with fail
      refine (awk14_any _).mono ?_
      rintro e W9 ⟨rfl, hb9⟩
      have B9 := Fact.mk (BB2.out.trans (hb9.mono BB2.out.size))
      clear hb9
      go_wp2
      go_ret
      exact ⟨rfl, BEL.out.trans (B9.out.mono BEL.out.size)⟩
end Go.Proofs.Ythiapebodpkamaa

