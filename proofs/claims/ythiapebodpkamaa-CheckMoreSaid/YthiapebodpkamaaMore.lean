/- CheckMore: the walk. -/
import Derived.Test.YthiapebodpkamaaMoreP
import Derived.Test.YthiapebodpkamaaJoins
import Derived.Test.YthiapebodpkamaaStore
import Derived.Deep.RegionHeld3
import Derived.Deep.DeepCutAuto
import Derived.Deep.QuietTactic
import Derived.BigQuiet
namespace Go.Proofs.Ythiapebodpkamaa
open Go.RowKit
theorem insInfo : ∃ i, Try.prog.info? 38 = some i ∧ i.zero = some (.agg #[.int .u8 0, .int .u8 0, .int .i64 0, .int .i64 0]) ∧ i.size = 4 ∧ i.bytes = 24 := by
  have h : (Try.prog.info? 38).map (fun i => (i.zero, i.size, i.bytes)) = some (some (.agg #[.int .u8 0, .int .u8 0, .int .i64 0, .int .i64 0]), 4, 24) := by kernel_rfl
  obtain ⟨i, h1, h2⟩ := Option.map_eq_some_iff.1 h
  simp only [Prod.mk.injEq] at h2
  exact ⟨i, h1, h2.1, h2.2.1, h2.2.2⟩
theorem ins_one (y : GIns) : ∀ u ∈ encIns y, u.oneCell' = true := by
  intro u hu
  simp only [encIns, List.mem_cons, List.not_mem_nil, or_false] at hu
  rcases hu with rfl | rfl | rfl | rfl <;> rfl
theorem own_empty {w : World} {m : Nat} (hm : m = w.heap.size) {B : Nat} (h : B ≤ m) : Own 38 4 encIns (w.alloc (.cells #[] 38)) B (.slice (some ⟨m, 0, none⟩) 0 0) ([] : List GIns) := by
  subst hm
  exact row_new0 w B h 38 4
theorem own_some {α : Type} {E : TypeId} {k : Nat} {enc : α → List Value} {w : World} {B : Nat} {v : Value} {xs : List α} (h : Own E k enc w B v xs) (hp : 0 < xs.length) : ∃ g cap cur, v = .slice (some ⟨g, 0, none⟩) xs.length cap ∧ B ≤ g ∧ w.heap[g]? = some (.cells cur E (0, 0)) := by
  rcases h.2 with ⟨_, h0⟩ | ⟨g, cap, cur, hv, hg, hh, _⟩
  · omega
  · exact ⟨g, cap, cur, hv, hg, hh⟩
theorem bel_drewN {B : Nat} {w w' : World} (h : Below B w w') (n : Nat) : Below B w (w'.drewN n) := by
  induction n with
  | zero => exact h
  | succ n ih => exact ih.drew
theorem row4 {w : World} {g : Nat} {a b c d : Value} {T : TypeId} (h : w.heap[g]? = some (.cells #[a, b, c, d] T (0, 0))) : w.cell? ⟨g, 0, none⟩ = some a ∧ w.cell? ⟨g, 1, none⟩ = some b ∧ w.cell? ⟨g, 2, none⟩ = some c ∧ w.cell? ⟨g, 3, none⟩ = some d :=
  ⟨by rw [cell_of_row _ _ 0 _ _ _ h]; rfl, by rw [cell_of_row _ _ 1 _ _ _ h]; rfl, by rw [cell_of_row _ _ 2 _ _ _ h]; rfl, by rw [cell_of_row _ _ 3 _ _ _ h]; rfl⟩
theorem ho_block {w : World} {B g : Nat} {v : Value} {xs : List GIns} {cs : Array Value} (h : Own 38 4 encIns w B v xs) (hk : w.heap[g]? = some (.cells cs 32 (0, 0))) : v.ownBlock ≠ some g := fun e => by
  obtain ⟨_, cur, hh⟩ := own_typed h g e
  rw [hk] at hh
  injection hh with hh
  injection hh with _ e2 _
  exact absurd e2 (by decide)
set_option maxRecDepth 100000 in
set_option maxHeartbeats 8000000 in
theorem more_any (c : GCode) (hw : c.Wf) (vs bs is : Value) (a b : Int) (ha0 : 0 ≤ a) (ha1 : a ≤ 65535) (hb0 : 0 ≤ b) (hb1 : b ≤ 65535) (w : World) (h : CodeRd w c vs bs is) (hnm : c.name.size ≤ 9223372036854775807) (hnms : ∀ x ∈ c.vars, x.name.size ≤ 9223372036854775807) :
    Calls Try.prog 7 #[.agg #[.string c.name, vs, bs, is], .int .u16 a, .int .u16 b] w fun e w' => e = .returned (.bool true) ∧ Below w.heap.size w w' := by
  obtain ⟨A1, c1, rfl⟩ : ∃ A c', vs = .slice A c.vars.length c' := by obtain ⟨_, A, c', h, _⟩ := h.vars; exact ⟨A, c', h⟩
  obtain ⟨A2, c2, rfl⟩ : ∃ A c', bs = .slice A c.blocks.length c' := by obtain ⟨_, A, c', h, _⟩ := h.blocks; exact ⟨A, c', h⟩
  obtain ⟨A3, c3, rfl⟩ : ∃ A c', is = .slice A c.ins.length c' := by obtain ⟨_, A, c', h, _⟩ := h.ins; exact ⟨A, c', h⟩
  have BEL : Fact (Below w.heap.size w (boxed w c A1 A2 A3 c1 c2 c3)) := ⟨(one_block w _).1⟩
  have H := Fact.mk (h.below BEL.out)
  have GR := Fact.mk (great_any c _ _ _ _ H.out hnm hnms)
  have HW := Fact.mk hw
  clear h hw hnm hnms
  go_enter Try.func7, Try.ntmps7
  go_wp2_with fail
  refine GR.out.mono ?_
  rintro e W0 ⟨g, rfl, hg, hb0⟩
  have BB := Fact.mk hb0
  clear hb0 GR
  obtain ⟨k0, k1, k2, k3⟩ : W0.cell? ⟨w.heap.size, 0, none⟩ = some (.string c.name) ∧ W0.cell? ⟨w.heap.size, 1, none⟩ = some (.slice A1 c.vars.length c1) ∧ W0.cell? ⟨w.heap.size, 2, none⟩ = some (.slice A2 c.blocks.length c2) ∧ W0.cell? ⟨w.heap.size, 3, none⟩ = some (.slice A3 c.ins.length c3) := code_cells BB.out
  cases g with
  | true =>
    clear hg
    go_wp2_with fail
    refine (awk14_any _).mono ?_
    rintro e W9 ⟨rfl, hb9⟩
    have B9 := Fact.mk (BB.out.trans (hb9.mono BB.out.size))
    clear hb9
    go_wp2
    go_ret
    exact ⟨rfl, BEL.out.trans (B9.out.mono BEL.out.size)⟩
  | false =>
    obtain ⟨-, -, g3, -⟩ := hg rfl
    have hn9 : (c.ins.length : Int) < 9223372036854775807 := by omega
    have SP := Fact.mk (spots_any c HW.out hn9 _ _ _ _ (H.out.below BB.out))
    clear hg
    go_upto_region 4 with (fail)
    obtain ⟨lo, hlo⟩ : ∃ lo, (if b < a then b else a) = lo := ⟨_, rfl⟩
    obtain ⟨hi, hhi⟩ : ∃ hi, (if a < b then b else a) = hi := ⟨_, rfl⟩
    rw [hlo, hhi]
    have LH : Fact (lo ≤ hi) := ⟨by
      rw [← hlo, ← hhi]
      split <;> split <;> omega⟩
    clear hlo hhi
    go_wp2_with fail
    refine SP.out.mono ?_
    rintro e W1 ⟨v, rfl, hsp, hb1⟩
    have BB1 := Fact.mk (BB.out.trans (hb1.mono BB.out.size))
    have hvs : ∃ A n c', v = .slice A n c' := by
      rcases hsp with ⟨h, _⟩ | ⟨S, _, h, _⟩
      · exact ⟨_, _, _, h⟩
      · exact ⟨_, _, _, h⟩
    obtain ⟨A0, n0, c0, rfl⟩ := hvs
    have KEEP : Fact (∀ W' : World, Below (boxed w c A1 A2 A3 c1 c2 c3).heap.size (boxed w c A1 A2 A3 c1 c2 c3) W' → (W'.cell? ⟨w.heap.size, 0, none⟩ = some (.string c.name) ∧ W'.cell? ⟨w.heap.size, 1, none⟩ = some (.slice A1 c.vars.length c1) ∧ W'.cell? ⟨w.heap.size, 2, none⟩ = some (.slice A2 c.blocks.length c2) ∧ W'.cell? ⟨w.heap.size, 3, none⟩ = some (.slice A3 c.ins.length c3)) ∧ Below (boxed w c A1 A2 A3 c1 c2 c3).heap.size (boxed w c A1 A2 A3 c1 c2 c3) W') := ⟨fun W' hW => ⟨code_cells hW, hW⟩⟩
    have CK : Fact (∀ bud r, checkB c bud = r → ∀ W' : World, ((W'.cell? ⟨w.heap.size, 0, none⟩ = some (.string c.name) ∧ W'.cell? ⟨w.heap.size, 1, none⟩ = some (.slice A1 c.vars.length c1) ∧ W'.cell? ⟨w.heap.size, 2, none⟩ = some (.slice A2 c.blocks.length c2) ∧ W'.cell? ⟨w.heap.size, 3, none⟩ = some (.slice A3 c.ins.length c3)) ∧ Below (boxed w c A1 A2 A3 c1 c2 c3).heap.size (boxed w c A1 A2 A3 c1 c2 c3) W') → Calls Try.prog 24 #[.agg #[.string c.name, .slice A1 c.vars.length c1, .slice A2 c.blocks.length c2, .slice A3 c.ins.length c3], .int .i64 bud] W' fun e w' => e = .returned (.int .i64 r) ∧ Below (boxed w c A1 A2 A3 c1 c2 c3).heap.size (boxed w c A1 A2 A3 c1 c2 c3) w') :=
      ⟨fun bud r hr W' hW => hr ▸ (check_any c HW.out hn9 _ _ _ bud W' (H.out.below hW.2)).mono fun e w' h => ⟨h.1, hW.2.trans (h.2.mono hW.2.size)⟩⟩
    have STP := Fact.mk (fun (W : World) (hW : Below (boxed w c A1 A2 A3 c1 c2 c3).heap.size (boxed w c A1 A2 A3 c1 c2 c3) W) => steps_any c HW.out hn9 _ _ _ W (H.out.below hW))
    clear hb1 SP BB k0 k1 k2 k3 hsp
    obtain ⟨⟨k0, k1, k2, k3⟩, -⟩ := KEEP.out _ BB1.out
    obtain ⟨er, her⟩ : ∃ er, (spotsB c).2.2 = er := ⟨_, rfl⟩
    rw [her]
    by_cases h0 : er = 0
    · subst h0
      have OK := Fact.mk her
      obtain ⟨sr, hsr⟩ : ∃ sr, stepsB c = sr := ⟨_, rfl⟩
      have hck : ∀ bud, checkB c bud = if bud < sr then 142 else 0 := fun bud => by unfold checkB; rw [if_pos her, hsr]
      rw [hsr] at STP
      clear her hsr
      by_cases hs : lo < sr
      · have CKL := Fact.mk (CK.out lo 142 (by rw [hck, if_pos hs]))
        have es : decide (sr ≤ lo) = false := decide_eq_false (by omega)
        obtain ⟨yr, hyr⟩ : ∃ yr, checkB c hi = yr := ⟨_, rfl⟩
        have CKH := Fact.mk (CK.out hi yr hyr)
        clear hs hck CK hyr
        go_upto_region 5 with (fail)
        go_cut [12, 13] from 39 to 44 (fun x y wx => x = .int .i64 142 ∧ y = .int .i64 yr ∧ Fact (Below (boxed w c A1 A2 A3 c1 c2 c3).heap.size (boxed w c A1 A2 A3 c1 c2 c3) wx))
        case first =>
          go_region_held3 (fun W' => (W'.cell? ⟨w.heap.size, 0, none⟩ = some (.string c.name) ∧ W'.cell? ⟨w.heap.size, 1, none⟩ = some (.slice A1 c.vars.length c1) ∧ W'.cell? ⟨w.heap.size, 2, none⟩ = some (.slice A2 c.blocks.length c2) ∧ W'.cell? ⟨w.heap.size, 3, none⟩ = some (.slice A3 c.ins.length c3)) ∧ Below (boxed w c A1 A2 A3 c1 c2 c3).heap.size (boxed w c A1 A2 A3 c1 c2 c3) W')
            (first | exact KEEP.out _ BB1.out.drew | (refine KEEP.out _ ?_; assumption))
            (first | (go_at_call 24; (with_reducible refine (CKL.out _ (by assumption)).mono ?_); rintro e W6 ⟨rfl, hb6⟩) | (go_at_call 24; (with_reducible refine (CKH.out _ (by assumption)).mono ?_); rintro e W6 ⟨rfl, hb6⟩))
          all_goals (go_wp2_with fail; go_meet; exact ⟨rfl, rfl, ⟨hb6⟩⟩)
        case rest =>
          obtain ⟨rfl, rfl, hb6⟩ := hcut
          have BB6 := Fact.mk hb6.out
          obtain ⟨⟨k0, k1, k2, k3⟩, -⟩ := KEEP.out _ BB6.out
          go_wp2_with fail
          refine (STP.out _ BB6.out).mono ?_
          rintro e W2 ⟨rfl, hb2⟩
          have BB2 := Fact.mk (BB6.out.trans (hb2.mono BB6.out.size))
          clear hb2 k0 k1 k2 k3 hb6 CKL CKH STP
          obtain ⟨⟨k0, k1, k2, k3⟩, -⟩ := KEEP.out _ BB2.out
          by_cases hn2 : 2000 < c.ins.length + 2
          · have en : (2000 : Int) < (c.ins.length : Int) + 2 := by omega
            clear hn2
            go_wp2_with fail
            refine (awk14_any _).mono ?_
            rintro e W9 ⟨rfl, hb9⟩
            have B9 := Fact.mk (BB2.out.trans (hb9.mono BB2.out.size))
            clear hb9
            go_wp2
            go_ret
            exact ⟨rfl, BEL.out.trans (B9.out.mono BEL.out.size)⟩
          · have en : decide ((2000 : Int) < (c.ins.length : Int) + 2) = false := decide_eq_false (by omega)
            have hn3 : Fact (c.ins.length + 2 ≤ 2000) := ⟨by omega⟩
            have hn4 : c.ins.length ≤ 1998 := by omega
            clear hn2 hn9 g3
            obtain ⟨i0, hi0, hz0, hz1, hz2⟩ := insInfo
            have RI := Fact.mk (H.out.below BB2.out).ins
            have lw1 : w.heap.size < W2.heap.size := by have := BB2.out.size; simp at this; omega
            go_wp2_with (at_builtin; refine wpList_append_rd rfl _ _ 30 rfl W2.heap.size 38 i0 (.agg #[.int .u8 0, .int .u8 0, .int .i64 0, .int .i64 0]) 4 24 Try.underlying30 hi0 hz0 hz1 hz2 rfl (by decide) (by decide) encIns encIns_len ins_one _ [] rfl (own_empty (by simp) (by omega)) _ c.ins rfl ((RI.out.below (one_block W2 _).1).below (one_block _ _).1) (by simp; omega) (by simp; omega) ?_)
            intro v' W3 ho hr
            have bx : ((W2.alloc (Obj.cells #[.string c.name, .slice A1 c.vars.length c1, .slice A2 c.blocks.length c2, .slice A3 c.ins.length c3] 32)).alloc (Obj.cells #[] 38)).heap[W2.heap.size]? = some (.cells #[.string c.name, .slice A1 c.vars.length c1, .slice A2 c.blocks.length c2, .slice A3 c.ins.length c3] 32 (0, 0)) := (two_blocks W2 _ _).2.1
            have hbx : W3.heap[W2.heap.size]? = some (.cells #[.string c.name, .slice A1 c.vars.length c1, .slice A2 c.blocks.length c2, .slice A3 c.ins.length c3] 32 (0, 0)) := (hr.g.block W2.heap.size (Array.getElem?_eq_some_iff.1 bx).1 (fun e => by simp [Value.ownBlock] at e)).trans bx
            have hb3 : Below W2.heap.size W2 W3 := ((two_blocks W2 _ _).1).grown hr.g (two_blocks W2 _ _).1.size (fun k hk => by simp [Value.ownBlock] at hk; omega)
            obtain ⟨g, cap, rfl⟩ := ho.slice2
            have ho' : Own 38 4 encIns W3 W2.heap.size (.slice g c.ins.length cap) c.ins := ho
            have lw2 : W2.heap.size < W3.heap.size := (Array.getElem?_eq_some_iff.1 hbx).1
            have HBX := Fact.mk hbx
            have HB3 := Fact.mk hb3
            have HO := Fact.mk ho'
            have nb := ho_block ho' hbx
            clear ho ho' hr bx hbx hb3
            go_wp2_with (at_builtin; refine wpList_append_rd rfl _ _ 30 rfl W2.heap.size 38 i0 (.agg #[.int .u8 0, .int .u8 0, .int .i64 0, .int .i64 0]) 4 24 Try.underlying30 hi0 hz0 hz1 hz2 rfl (by decide) (by decide) encIns encIns_len ins_one _ c.ins rfl (HO.out.below (one_block W3 _).1) _ [endIns, endIns] rfl (rd_new encIns 4 encIns_len W3 [endIns, endIns] 38 (by decide)) (by simp; omega) (by simp; omega) ?_)
            intro v2 W4 ho hr
            have hbx : W4.heap[W2.heap.size]? = some (.cells #[.string c.name, .slice A1 c.vars.length c1, .slice A2 c.blocks.length c2, .slice A3 c.ins.length c3] 32 (0, 0)) := (hr.g.block W2.heap.size (by simp; omega) (fun e => nb e.symm)).trans (((one_block W3 _).1.block W2.heap.size lw2).trans HBX.out)
            have hb4 : Below W2.heap.size W2 W4 := (HB3.out.trans ((one_block W3 _).1.mono HB3.out.size)).grown hr.g (Nat.le_trans HB3.out.size (by simp)) (fun k hk => (World.ownsRow.lt HO.out k hk).1)
            obtain ⟨g2, cap2, rfl⟩ := ho.slice2
            have l2 : (c.ins ++ [endIns, endIns]).length = c.ins.length + 2 := by simp
            have d3 : W4.cell? ⟨W2.heap.size, 3, none⟩ = some (.slice A3 c.ins.length c3) := by rw [cell_of_row _ _ 3 _ _ _ hbx]; rfl
            have f3 : W4.frozen? ⟨W2.heap.size, 3, none⟩ = false := frozen_of_row _ _ 3 _ _ hbx
            clear HBX HB3 HO nb hr lw2
            have HBX := Fact.mk hbx
            have HB4 := Fact.mk hb4
            have HO := Fact.mk ho
            rw [l2] at HO ⊢
            clear hbx hb4 ho
            go_upto_region 12 with (fail)
            have hbx5 := set4_3 (u := .slice g2 (c.ins.length + 2) cap2) HBX.out
            have ho5 := HO.out.set HBX.out (by decide) 3 (.slice g2 (c.ins.length + 2) cap2)
            have hb5 := HB4.out.setCell (p := ⟨W2.heap.size, 3, none⟩) (Nat.le_refl _) (.slice g2 (c.ins.length + 2) cap2)
            clear d3 f3 HBX HB4 HO k0 k1 k2 k3 l2
            generalize W4.setCell ⟨W2.heap.size, 3, none⟩ (.slice g2 (c.ins.length + 2) cap2) = W5 at hbx5 ho5 hb5 ⊢
            have BB5 := Fact.mk (BB2.out.trans (hb5.mono BB2.out.size))
            have RDD : Fact (CodeRd W5 (moreB c) (.slice A1 c.vars.length c1) (.slice A2 c.blocks.length c2) (.slice g2 (c.ins.length + 2) cap2)) := ⟨⟨(H.out.below BB5.out).vars, (H.out.below BB5.out).blocks, ho5.rd encIns_len⟩⟩
            have HBX := Fact.mk hbx5
            clear ho5 hb5 hbx5
            obtain ⟨⟨k0, k1, k2, k3⟩, -⟩ := KEEP.out _ BB5.out
            have lw5 : W2.heap.size < W5.heap.size := (Array.getElem?_eq_some_iff.1 HBX.out).1
            have hn9 : Fact ((c.ins.length : Int) < 9223372036854775807) := ⟨by omega⟩
            have WFD : Fact (moreB c).Wf := ⟨⟨HW.out.vars, HW.out.blocks, fun i hi => by
              rcases List.mem_append.1 hi with h | h
              · exact HW.out.ins i h
              · simp only [List.mem_cons, List.not_mem_nil, or_false] at h
                rcases h with rfl | rfl <;> exact end_wf⟩⟩
            have hnd : Fact (((moreB c).ins.length : Int) < 9223372036854775807) := ⟨by rw [more_len]; have := hn3.out; omega⟩
            go_wp2_with fail
            refine (spots_any c HW.out hn9.out _ _ _ W5 (H.out.below BB5.out)).mono ?_
            rintro e W6 ⟨v1, rfl, hsp, hb6⟩
            rw [OK.out]
            have hlen := (spots_plc OK.out).len
            obtain ⟨S, rfl, hpl⟩ : ∃ S, v1 = .slice (some ⟨S, 0, none⟩) (spotsB c).1.length (spotsB c).1.length ∧ Places W6 S (spotsB c).1 := by
              rcases hsp with ⟨_, h⟩ | ⟨S, _, h1, h2⟩
              · rw [h] at hlen; simp at hlen
              · exact ⟨S, h1, h2⟩
            rw [hlen]
            have PL := Fact.mk hpl
            have HLEN := Fact.mk hlen
            have B6 := Fact.mk hb6
            clear k0 k1 k2 k3 hsp hpl hlen hb6
            obtain ⟨d0, d1, d2, d3⟩ := row4 ((B6.out.block W2.heap.size lw5).trans HBX.out)
            go_wp2_with fail
            refine (spots_any (moreB c) WFD.out hnd.out _ _ _ W6 (RDD.out.below B6.out)).mono ?_
            rintro e W7 ⟨v2, rfl, hsp, hb7⟩
            rw [more_spots OK.out hn3.out] at hsp ⊢
            obtain ⟨S2, rfl, hpl⟩ : ∃ S2, v2 = .slice (some ⟨S2, 0, none⟩) ((spotsB c).1 ++ more2).length ((spotsB c).1 ++ more2).length ∧ Places W7 S2 ((spotsB c).1 ++ more2) := by
              rcases hsp with ⟨_, h⟩ | ⟨S, _, h1, h2⟩
              · simp [more2] at h
              · exact ⟨S, h1, h2⟩
            have hl2 : ((spotsB c).1 ++ more2).length = c.ins.length + 3 := by rw [List.length_append, HLEN.out]; rfl
            rw [hl2]
            have PA := Fact.mk (PL.out.below hb7)
            have PB := Fact.mk hpl
            have HL2 := Fact.mk hl2
            have BB7 := Fact.mk (BB5.out.trans ((B6.out.trans (hb7.mono B6.out.size)).mono BB5.out.size))
            have e3 : ((c.ins.length : Int) + 3 != (c.ins.length : Int) + 1 + 2) = false := by
              rw [show (c.ins.length : Int) + 1 + 2 = (c.ins.length : Int) + 3 by omega]; exact bne_self_eq_false _
            have e4 : ((c.ins.length : Int) + 3 != (c.ins.length : Int) + 3) = false := bne_self_eq_false _
            clear hsp hpl hl2 hb7 d0 d1 d2 d3
            go_wp2_with fail
            go_loopw [126] (fun i wr => ∃ j : Nat, j ≤ c.ins.length + 1 ∧ i = .int .i64 j ∧ Fact (Below W7.heap.size W7 wr)) (fun i _ => c.ins.length + 1 - (intOf i).toNat)
            case atStart => exact ⟨0, Nat.zero_le _, rfl, ⟨Below.refl _ _⟩⟩
            case round =>
              obtain ⟨j, hj, rfl, hbr⟩ := hrel
              by_cases hlt : j < c.ins.length + 1
              · obtain ⟨q1, a0, a1, a2, ra, -, -, -, -⟩ := (PA.out.below hbr.out).at j (by rw [HLEN.out]; exact hlt)
                obtain ⟨q2, b0, b1, b2, rb, -, -, -, -⟩ := (PB.out.below hbr.out).at j (by rw [HL2.out]; omega)
                rw [more_at] at b0 b2 rb
                have SAME : Fact (∀ n, Calls Try.prog 26 #[q1, q2] (wr.drewN n) fun e w' => e = .returned (.bool true) ∧ ∃ m, w' = (wr.drewN n).drewN m) :=
                  ⟨fun n => (same14_any (wr.drewN n) _ _ _ _ (ra.move fun a u h => h) (rb.move fun a u h => h)).mono fun e w' h => ⟨by rw [h.1, decide_eq_true rfl], h.2⟩⟩
                obtain ⟨st, hst⟩ : ∃ st, (spotAt (spotsB c).1 j).steps = st := ⟨_, rfl⟩
                obtain ⟨rr, hrr⟩ : ∃ rr, (spotAt (spotsB c).1 j).reached = rr := ⟨_, rfl⟩
                rw [hst] at a2 b2
                rw [hrr] at a0 b0
                have i1 : (j : Int) < (c.ins.length : Int) + 1 := by omega
                have i2 : (j : Int) < (c.ins.length : Int) + 3 := by omega
                have e0 : (st != st) = false := bne_self_eq_false st
                have e1 : (rr != rr) = false := bne_self_eq_false rr
                clear ra rb hst hrr e3 e4
                go_wp2_with fail
                go_quiet ((go_at_call 26; exact Calls.quiet_of (SAME.out _)))
                clear a0 a1 a2 b0 b1 b2 SAME i1 i2
                go_wp2_with fail
                go_roundw
                case rel => exact ⟨j + 1, by omega, by go_num, ⟨bel_drewN hbr.out _⟩⟩
                case measure => simp [intOf]; omega
              · obtain rfl : j = c.ins.length + 1 := by omega
                obtain ⟨q2, b0, -, -, -, -, -, -, -⟩ := (PB.out.below hbr.out).at (c.ins.length + 1 + 1) (by rw [HL2.out]; omega)
                have hre : (spotAt ((spotsB c).1 ++ more2) (c.ins.length + 1 + 1)).reached = false := by
                  unfold spotAt
                  rw [List.getD_eq_getElem?_getD, List.getElem?_append_right (by rw [HLEN.out]; omega), HLEN.out, show c.ins.length + 1 + 1 - (c.ins.length + 1) = 1 by omega]
                  rfl
                rw [hre] at b0
                have i2 : (c.ins.length : Int) + 1 + 1 < (c.ins.length : Int) + 3 := by omega
                have BBR := Fact.mk (BB7.out.trans (hbr.out.mono BB7.out.size))
                clear hre e3 e4
                go_wp2_with fail
                refine (awk14_any _).mono ?_
                rintro e W9 ⟨rfl, hb9⟩
                have B9 := Fact.mk (BBR.out.trans (hb9.mono BBR.out.size))
                clear hb9
                go_wp2
                go_ret
                exact ⟨rfl, BEL.out.trans (B9.out.mono BEL.out.size)⟩
      · have CKL := Fact.mk (CK.out lo 0 (by rw [hck, if_neg hs]))
        have es : decide (sr ≤ lo) = true := decide_eq_true (by omega)
        have CKH := Fact.mk (CK.out hi 0 (by rw [hck, if_neg (by have := LH.out; omega)]))
        clear hs hck CK
        go_upto_region 5 with (fail)
        go_cut [12, 13] from 39 to 44 (fun x y wx => x = .int .i64 0 ∧ y = .int .i64 0 ∧ Fact (Below (boxed w c A1 A2 A3 c1 c2 c3).heap.size (boxed w c A1 A2 A3 c1 c2 c3) wx))
        case first =>
          go_region_held3 (fun W' => (W'.cell? ⟨w.heap.size, 0, none⟩ = some (.string c.name) ∧ W'.cell? ⟨w.heap.size, 1, none⟩ = some (.slice A1 c.vars.length c1) ∧ W'.cell? ⟨w.heap.size, 2, none⟩ = some (.slice A2 c.blocks.length c2) ∧ W'.cell? ⟨w.heap.size, 3, none⟩ = some (.slice A3 c.ins.length c3)) ∧ Below (boxed w c A1 A2 A3 c1 c2 c3).heap.size (boxed w c A1 A2 A3 c1 c2 c3) W')
            (first | exact KEEP.out _ BB1.out.drew | (refine KEEP.out _ ?_; assumption))
            (first | (go_at_call 24; (with_reducible refine (CKL.out _ (by assumption)).mono ?_); rintro e W6 ⟨rfl, hb6⟩) | (go_at_call 24; (with_reducible refine (CKH.out _ (by assumption)).mono ?_); rintro e W6 ⟨rfl, hb6⟩))
          all_goals (go_wp2_with fail; go_meet; exact ⟨rfl, rfl, ⟨hb6⟩⟩)
        case rest =>
          obtain ⟨rfl, rfl, hb6⟩ := hcut
          have BB6 := Fact.mk hb6.out
          obtain ⟨⟨k0, k1, k2, k3⟩, -⟩ := KEEP.out _ BB6.out
          go_wp2_with fail
          refine (STP.out _ BB6.out).mono ?_
          rintro e W2 ⟨rfl, hb2⟩
          have BB2 := Fact.mk (BB6.out.trans (hb2.mono BB6.out.size))
          clear hb2 k0 k1 k2 k3 hb6 CKL CKH STP
          obtain ⟨⟨k0, k1, k2, k3⟩, -⟩ := KEEP.out _ BB2.out
          by_cases hn2 : 2000 < c.ins.length + 2
          · have en : (2000 : Int) < (c.ins.length : Int) + 2 := by omega
            clear hn2
            go_wp2_with fail
            refine (awk14_any _).mono ?_
            rintro e W9 ⟨rfl, hb9⟩
            have B9 := Fact.mk (BB2.out.trans (hb9.mono BB2.out.size))
            clear hb9
            go_wp2
            go_ret
            exact ⟨rfl, BEL.out.trans (B9.out.mono BEL.out.size)⟩
          · have en : decide ((2000 : Int) < (c.ins.length : Int) + 2) = false := decide_eq_false (by omega)
            have hn3 : Fact (c.ins.length + 2 ≤ 2000) := ⟨by omega⟩
            have hn4 : c.ins.length ≤ 1998 := by omega
            clear hn2 hn9 g3
            obtain ⟨i0, hi0, hz0, hz1, hz2⟩ := insInfo
            have RI := Fact.mk (H.out.below BB2.out).ins
            have lw1 : w.heap.size < W2.heap.size := by have := BB2.out.size; simp at this; omega
            go_wp2_with (at_builtin; refine wpList_append_rd rfl _ _ 30 rfl W2.heap.size 38 i0 (.agg #[.int .u8 0, .int .u8 0, .int .i64 0, .int .i64 0]) 4 24 Try.underlying30 hi0 hz0 hz1 hz2 rfl (by decide) (by decide) encIns encIns_len ins_one _ [] rfl (own_empty (by simp) (by omega)) _ c.ins rfl ((RI.out.below (one_block W2 _).1).below (one_block _ _).1) (by simp; omega) (by simp; omega) ?_)
            intro v' W3 ho hr
            have bx : ((W2.alloc (Obj.cells #[.string c.name, .slice A1 c.vars.length c1, .slice A2 c.blocks.length c2, .slice A3 c.ins.length c3] 32)).alloc (Obj.cells #[] 38)).heap[W2.heap.size]? = some (.cells #[.string c.name, .slice A1 c.vars.length c1, .slice A2 c.blocks.length c2, .slice A3 c.ins.length c3] 32 (0, 0)) := (two_blocks W2 _ _).2.1
            have hbx : W3.heap[W2.heap.size]? = some (.cells #[.string c.name, .slice A1 c.vars.length c1, .slice A2 c.blocks.length c2, .slice A3 c.ins.length c3] 32 (0, 0)) := (hr.g.block W2.heap.size (Array.getElem?_eq_some_iff.1 bx).1 (fun e => by simp [Value.ownBlock] at e)).trans bx
            have hb3 : Below W2.heap.size W2 W3 := ((two_blocks W2 _ _).1).grown hr.g (two_blocks W2 _ _).1.size (fun k hk => by simp [Value.ownBlock] at hk; omega)
            obtain ⟨g, cap, rfl⟩ := ho.slice2
            have ho' : Own 38 4 encIns W3 W2.heap.size (.slice g c.ins.length cap) c.ins := ho
            have lw2 : W2.heap.size < W3.heap.size := (Array.getElem?_eq_some_iff.1 hbx).1
            have HBX := Fact.mk hbx
            have HB3 := Fact.mk hb3
            have HO := Fact.mk ho'
            have nb := ho_block ho' hbx
            clear ho ho' hr bx hbx hb3
            go_wp2_with (at_builtin; refine wpList_append_rd rfl _ _ 30 rfl W2.heap.size 38 i0 (.agg #[.int .u8 0, .int .u8 0, .int .i64 0, .int .i64 0]) 4 24 Try.underlying30 hi0 hz0 hz1 hz2 rfl (by decide) (by decide) encIns encIns_len ins_one _ c.ins rfl (HO.out.below (one_block W3 _).1) _ [endIns, endIns] rfl (rd_new encIns 4 encIns_len W3 [endIns, endIns] 38 (by decide)) (by simp; omega) (by simp; omega) ?_)
            intro v2 W4 ho hr
            have hbx : W4.heap[W2.heap.size]? = some (.cells #[.string c.name, .slice A1 c.vars.length c1, .slice A2 c.blocks.length c2, .slice A3 c.ins.length c3] 32 (0, 0)) := (hr.g.block W2.heap.size (by simp; omega) (fun e => nb e.symm)).trans (((one_block W3 _).1.block W2.heap.size lw2).trans HBX.out)
            have hb4 : Below W2.heap.size W2 W4 := (HB3.out.trans ((one_block W3 _).1.mono HB3.out.size)).grown hr.g (Nat.le_trans HB3.out.size (by simp)) (fun k hk => (World.ownsRow.lt HO.out k hk).1)
            obtain ⟨g2, cap2, rfl⟩ := ho.slice2
            have l2 : (c.ins ++ [endIns, endIns]).length = c.ins.length + 2 := by simp
            have d3 : W4.cell? ⟨W2.heap.size, 3, none⟩ = some (.slice A3 c.ins.length c3) := by rw [cell_of_row _ _ 3 _ _ _ hbx]; rfl
            have f3 : W4.frozen? ⟨W2.heap.size, 3, none⟩ = false := frozen_of_row _ _ 3 _ _ hbx
            clear HBX HB3 HO nb hr lw2
            have HBX := Fact.mk hbx
            have HB4 := Fact.mk hb4
            have HO := Fact.mk ho
            rw [l2] at HO ⊢
            clear hbx hb4 ho
            go_upto_region 12 with (fail)
            have hbx5 := set4_3 (u := .slice g2 (c.ins.length + 2) cap2) HBX.out
            have ho5 := HO.out.set HBX.out (by decide) 3 (.slice g2 (c.ins.length + 2) cap2)
            have hb5 := HB4.out.setCell (p := ⟨W2.heap.size, 3, none⟩) (Nat.le_refl _) (.slice g2 (c.ins.length + 2) cap2)
            clear d3 f3 HBX HB4 HO k0 k1 k2 k3 l2
            generalize W4.setCell ⟨W2.heap.size, 3, none⟩ (.slice g2 (c.ins.length + 2) cap2) = W5 at hbx5 ho5 hb5 ⊢
            have BB5 := Fact.mk (BB2.out.trans (hb5.mono BB2.out.size))
            have RDD : Fact (CodeRd W5 (moreB c) (.slice A1 c.vars.length c1) (.slice A2 c.blocks.length c2) (.slice g2 (c.ins.length + 2) cap2)) := ⟨⟨(H.out.below BB5.out).vars, (H.out.below BB5.out).blocks, ho5.rd encIns_len⟩⟩
            have HBX := Fact.mk hbx5
            clear ho5 hb5 hbx5
            obtain ⟨⟨k0, k1, k2, k3⟩, -⟩ := KEEP.out _ BB5.out
            have lw5 : W2.heap.size < W5.heap.size := (Array.getElem?_eq_some_iff.1 HBX.out).1
            have hn9 : Fact ((c.ins.length : Int) < 9223372036854775807) := ⟨by omega⟩
            have WFD : Fact (moreB c).Wf := ⟨⟨HW.out.vars, HW.out.blocks, fun i hi => by
              rcases List.mem_append.1 hi with h | h
              · exact HW.out.ins i h
              · simp only [List.mem_cons, List.not_mem_nil, or_false] at h
                rcases h with rfl | rfl <;> exact end_wf⟩⟩
            have hnd : Fact (((moreB c).ins.length : Int) < 9223372036854775807) := ⟨by rw [more_len]; have := hn3.out; omega⟩
            go_wp2_with fail
            refine (spots_any c HW.out hn9.out _ _ _ W5 (H.out.below BB5.out)).mono ?_
            rintro e W6 ⟨v1, rfl, hsp, hb6⟩
            rw [OK.out]
            have hlen := (spots_plc OK.out).len
            obtain ⟨S, rfl, hpl⟩ : ∃ S, v1 = .slice (some ⟨S, 0, none⟩) (spotsB c).1.length (spotsB c).1.length ∧ Places W6 S (spotsB c).1 := by
              rcases hsp with ⟨_, h⟩ | ⟨S, _, h1, h2⟩
              · rw [h] at hlen; simp at hlen
              · exact ⟨S, h1, h2⟩
            rw [hlen]
            have PL := Fact.mk hpl
            have HLEN := Fact.mk hlen
            have B6 := Fact.mk hb6
            clear k0 k1 k2 k3 hsp hpl hlen hb6
            obtain ⟨d0, d1, d2, d3⟩ := row4 ((B6.out.block W2.heap.size lw5).trans HBX.out)
            go_wp2_with fail
            refine (spots_any (moreB c) WFD.out hnd.out _ _ _ W6 (RDD.out.below B6.out)).mono ?_
            rintro e W7 ⟨v2, rfl, hsp, hb7⟩
            rw [more_spots OK.out hn3.out] at hsp ⊢
            obtain ⟨S2, rfl, hpl⟩ : ∃ S2, v2 = .slice (some ⟨S2, 0, none⟩) ((spotsB c).1 ++ more2).length ((spotsB c).1 ++ more2).length ∧ Places W7 S2 ((spotsB c).1 ++ more2) := by
              rcases hsp with ⟨_, h⟩ | ⟨S, _, h1, h2⟩
              · simp [more2] at h
              · exact ⟨S, h1, h2⟩
            have hl2 : ((spotsB c).1 ++ more2).length = c.ins.length + 3 := by rw [List.length_append, HLEN.out]; rfl
            rw [hl2]
            have PA := Fact.mk (PL.out.below hb7)
            have PB := Fact.mk hpl
            have HL2 := Fact.mk hl2
            have BB7 := Fact.mk (BB5.out.trans ((B6.out.trans (hb7.mono B6.out.size)).mono BB5.out.size))
            have e3 : ((c.ins.length : Int) + 3 != (c.ins.length : Int) + 1 + 2) = false := by
              rw [show (c.ins.length : Int) + 1 + 2 = (c.ins.length : Int) + 3 by omega]; exact bne_self_eq_false _
            have e4 : ((c.ins.length : Int) + 3 != (c.ins.length : Int) + 3) = false := bne_self_eq_false _
            clear hsp hpl hl2 hb7 d0 d1 d2 d3
            go_wp2_with fail
            go_loopw [126] (fun i wr => ∃ j : Nat, j ≤ c.ins.length + 1 ∧ i = .int .i64 j ∧ Fact (Below W7.heap.size W7 wr)) (fun i _ => c.ins.length + 1 - (intOf i).toNat)
            case atStart => exact ⟨0, Nat.zero_le _, rfl, ⟨Below.refl _ _⟩⟩
            case round =>
              obtain ⟨j, hj, rfl, hbr⟩ := hrel
              by_cases hlt : j < c.ins.length + 1
              · obtain ⟨q1, a0, a1, a2, ra, -, -, -, -⟩ := (PA.out.below hbr.out).at j (by rw [HLEN.out]; exact hlt)
                obtain ⟨q2, b0, b1, b2, rb, -, -, -, -⟩ := (PB.out.below hbr.out).at j (by rw [HL2.out]; omega)
                rw [more_at] at b0 b2 rb
                have SAME : Fact (∀ n, Calls Try.prog 26 #[q1, q2] (wr.drewN n) fun e w' => e = .returned (.bool true) ∧ ∃ m, w' = (wr.drewN n).drewN m) :=
                  ⟨fun n => (same14_any (wr.drewN n) _ _ _ _ (ra.move fun a u h => h) (rb.move fun a u h => h)).mono fun e w' h => ⟨by rw [h.1, decide_eq_true rfl], h.2⟩⟩
                obtain ⟨st, hst⟩ : ∃ st, (spotAt (spotsB c).1 j).steps = st := ⟨_, rfl⟩
                obtain ⟨rr, hrr⟩ : ∃ rr, (spotAt (spotsB c).1 j).reached = rr := ⟨_, rfl⟩
                rw [hst] at a2 b2
                rw [hrr] at a0 b0
                have i1 : (j : Int) < (c.ins.length : Int) + 1 := by omega
                have i2 : (j : Int) < (c.ins.length : Int) + 3 := by omega
                have e0 : (st != st) = false := bne_self_eq_false st
                have e1 : (rr != rr) = false := bne_self_eq_false rr
                clear ra rb hst hrr e3 e4
                go_wp2_with fail
                go_quiet ((go_at_call 26; exact Calls.quiet_of (SAME.out _)))
                clear a0 a1 a2 b0 b1 b2 SAME i1 i2
                go_wp2_with fail
                go_roundw
                case rel => exact ⟨j + 1, by omega, by go_num, ⟨bel_drewN hbr.out _⟩⟩
                case measure => simp [intOf]; omega
              · obtain rfl : j = c.ins.length + 1 := by omega
                obtain ⟨q2, b0, -, -, -, -, -, -, -⟩ := (PB.out.below hbr.out).at (c.ins.length + 1 + 1) (by rw [HL2.out]; omega)
                have hre : (spotAt ((spotsB c).1 ++ more2) (c.ins.length + 1 + 1)).reached = false := by
                  unfold spotAt
                  rw [List.getD_eq_getElem?_getD, List.getElem?_append_right (by rw [HLEN.out]; omega), HLEN.out, show c.ins.length + 1 + 1 - (c.ins.length + 1) = 1 by omega]
                  rfl
                rw [hre] at b0
                have i2 : (c.ins.length : Int) + 1 + 1 < (c.ins.length : Int) + 3 := by omega
                have BBR := Fact.mk (BB7.out.trans (hbr.out.mono BB7.out.size))
                clear hre e3 e4
                go_wp2_with fail
                refine (awk14_any _).mono ?_
                rintro e W9 ⟨rfl, hb9⟩
                have B9 := Fact.mk (BBR.out.trans (hb9.mono BBR.out.size))
                clear hb9
                go_wp2
                go_ret
                exact ⟨rfl, BEL.out.trans (B9.out.mono BEL.out.size)⟩
    · have e6 : (er != 0) = true := bne_iff_ne.2 h0
      have e7 : (er == 0) = false := beq_eq_false_iff_ne.2 h0
      have e8 : (er != er) = false := bne_self_eq_false er
      have CKL := Fact.mk (CK.out lo er (by unfold checkB; rw [if_neg (by rw [her]; exact h0), her]))
      have CKH := Fact.mk (CK.out hi er (by unfold checkB; rw [if_neg (by rw [her]; exact h0), her]))
      clear her CK h0
      go_upto_region 5 with (fail)
      go_region_held3 (fun W' => (W'.cell? ⟨w.heap.size, 0, none⟩ = some (.string c.name) ∧ W'.cell? ⟨w.heap.size, 1, none⟩ = some (.slice A1 c.vars.length c1) ∧ W'.cell? ⟨w.heap.size, 2, none⟩ = some (.slice A2 c.blocks.length c2) ∧ W'.cell? ⟨w.heap.size, 3, none⟩ = some (.slice A3 c.ins.length c3)) ∧ Below (boxed w c A1 A2 A3 c1 c2 c3).heap.size (boxed w c A1 A2 A3 c1 c2 c3) W')
        (first | exact KEEP.out _ BB1.out.drew | (refine KEEP.out _ ?_; assumption))
        (first | (go_at_call 24; (with_reducible refine (CKL.out _ (by assumption)).mono ?_); rintro e W6 ⟨rfl, hb6⟩) | (go_at_call 24; (with_reducible refine (CKH.out _ (by assumption)).mono ?_); rintro e W6 ⟨rfl, hb6⟩))
      all_goals
        rename_i hK6
        clear hK6 k0 k1 k2 k3
        go_wp2_with fail
        refine (awk14_any _).mono ?_
        rintro e W9 ⟨rfl, hb9⟩
        have B9 := Fact.mk (hb6.trans (hb9.mono hb6.size))
        clear hb9
        go_wp2
        go_ret
        exact ⟨rfl, BEL.out.trans (B9.out.mono BEL.out.size)⟩
end Go.Proofs.Ythiapebodpkamaa

