/- blockhouselaw16.ScanBlocks: the walk. -/
import Derived.Test.YtiogpainajokkaaTwo
import Derived.Test.YtiogpainajokkaaBlkS
namespace Go.Proofs.Ytiogpainajokkaa
open Go.RowKit
theorem bk_wf1 : bk1.Wf := by
  refine ⟨fun v hv => ?_, fun b hb => ?_, fun i hi => ?_⟩
  · simp only [bk1, List.mem_cons, List.not_mem_nil, or_false] at hv
    rcases hv with rfl | rfl | rfl | rfl <;> exact ⟨by decide, by decide, by decide⟩
  · simp only [bk1, List.mem_cons, List.not_mem_nil, or_false] at hb
    subst hb
    exact ⟨by decide, by decide⟩
  · simp only [bk1, List.mem_cons, List.not_mem_nil, or_false] at hi
    rcases hi with rfl | rfl | rfl | rfl | rfl | rfl | rfl | rfl <;> exact ⟨by decide, by decide, by decide, by decide⟩
theorem bk_wf2 : bk2.Wf := by
  refine ⟨bk_wf1.vars, bk_wf1.blocks, fun i hi => ?_⟩
  simp only [bk2, List.mem_cons, List.not_mem_nil, or_false] at hi
  rcases hi with rfl | rfl | rfl | rfl | rfl | rfl | rfl | rfl | rfl | rfl | rfl | rfl <;> exact ⟨by decide, by decide, by decide, by decide⟩
theorem bk_wf (tw : Bool) : (bkPg tw).Wf := by
  cases tw
  · exact bk_wf1
  · exact bk_wf2
/-- How the program lies in memory: rows of the call's own. -/
structure BkLay (w W : World) (X : Nat) (tw : Bool) (v b i : Value) : Prop where
  row : W.heap[X]? = some (.cells #[.string ⟨#[112]⟩, v, b, i] 26 (0, 0))
  oV : Own 43 4 encVar W w.heap.size v (bkPg tw).vars
  oB : Own 59 1 oneU8 W w.heap.size b (bkPg tw).blocks
  oI : Own 49 4 encIns W w.heap.size i (bkPg tw).ins
theorem BkLay.lt {w W : World} {X : Nat} {tw : Bool} {v b i : Value} (h : BkLay w W X tw v b i) : X < W.heap.size := (Array.getElem?_eq_some_iff.1 h.row).1
theorem BkLay.below {w W W' : World} {X : Nat} {tw : Bool} {v b i : Value} (h : BkLay w W X tw v b i) (hb : Below W.heap.size W W') : BkLay w W' X tw v b i :=
  ⟨(hb.block _ h.lt).trans h.row, h.oV.below hb, h.oB.below hb, h.oI.below hb⟩
theorem BkLay.rd {w W : World} {X : Nat} {tw : Bool} {v b i : Value} (h : BkLay w W X tw v b i) : CodeRd W (bkPg tw) v b i := ⟨h.oV.rd encVar_len, h.oB.rd oneU8_len, h.oI.rd encIns_len⟩
theorem BkLay.set {w W : World} {X : Nat} {tw : Bool} {v b i : Value} (h : BkLay w W X tw v b i) {P : Nat} {cs : Array Value} {fr : Nat × Nat} (hP : W.heap[P]? = some (.cells cs 34 fr)) (j : Nat) (u : Value) : BkLay w (W.setCell ⟨P, j, none⟩ u) X tw v b i := by
  have hne : X ≠ P := fun e => by
    subst e
    have h2 := h.row
    rw [hP] at h2
    injection h2 with h2
    injection h2 with _ e2 _
    exact absurd e2 (by decide)
  exact ⟨(heap_setCell_other W ⟨P, j, none⟩ X u hne).trans h.row, h.oV.set hP (by decide) j u, h.oB.set hP (by decide) j u, h.oI.set hP (by decide) j u⟩
theorem bk_lay {w W4 : World} {tw : Bool} {A : Option Addr} {n c : Nat} (ho : Own 49 4 encIns W4 w.heap.size (.slice A n c) (bkPg tw).ins) (hb : w.heap.size ≤ W4.heap.size) :
    ∃ W, W = (((W4.alloc (.cells #[.string ⟨#[99, 117]⟩, .int .u8 1, .int .u8 1, .int .i64 0, .string ⟨#[114]⟩, .int .u8 1, .int .u8 1, .int .i64 0, .string ⟨#[113]⟩, .int .u8 2, .int .u8 1, .int .i64 0, .string ⟨#[99, 118]⟩, .int .u8 2, .int .u8 4, .int .i64 0] 43)).alloc (.cells #[.int .u8 4] 59)).alloc (.cells #[.string ⟨#[112]⟩, .slice (some ⟨W4.heap.size, 0, none⟩) 4 4, .slice (some ⟨W4.heap.size + 1, 0, none⟩) 1 1, .slice A n c] 26)) ∧ BkLay w W (W4.heap.size + 1 + 1) tw (.slice (some ⟨W4.heap.size, 0, none⟩) 4 4) (.slice (some ⟨W4.heap.size + 1, 0, none⟩) 1 1) (.slice A n c) ∧ Below W4.heap.size W4 W := by
  obtain ⟨W, hW, hb2, r1, r2, r3, z⟩ := three_blocks W4 (.cells #[.string ⟨#[99, 117]⟩, .int .u8 1, .int .u8 1, .int .i64 0, .string ⟨#[114]⟩, .int .u8 1, .int .u8 1, .int .i64 0, .string ⟨#[113]⟩, .int .u8 2, .int .u8 1, .int .i64 0, .string ⟨#[99, 118]⟩, .int .u8 2, .int .u8 4, .int .i64 0] 43) (.cells #[.int .u8 4] 59) (.cells #[.string ⟨#[112]⟩, .slice (some ⟨W4.heap.size, 0, none⟩) 4 4, .slice (some ⟨W4.heap.size + 1, 0, none⟩) 1 1, .slice A n c] 26)
  have e1 : (bkPg tw).vars = bk1.vars := by cases tw <;> rfl
  have e2 : (bkPg tw).blocks = [4] := by cases tw <;> rfl
  refine ⟨W, hW, ⟨r3, ?_, ?_, ho.below hb2⟩, hb2⟩
  · rw [e1]
    exact own_new encVar_len (xs := bk1.vars) r1 hb (by show 4 ≤ _; omega)
  · rw [e2]
    exact own_new oneU8_len (xs := [4]) r2 (Nat.le_succ_of_le hb) (by show 1 ≤ _; omega)
theorem rd_two64 {W : World} {v : Value} {x y : Int} (h : Rd oneI64 1 W v [x, y]) : ∃ g o c, v = .slice (some ⟨g, o, none⟩) 2 c ∧ W.cell? ⟨g, o, none⟩ = some (.int .i64 x) ∧ W.cell? ⟨g, o + 1, none⟩ = some (.int .i64 y) := by
  obtain ⟨h0, A, c, rfl, h2, h4, h3⟩ := h
  obtain ⟨b, off, rfl, hc⟩ := h3 (by show 0 < 2; omega)
  exact ⟨b, off, c, rfl, hc 0 (by show 0 < 2; omega) 0 _ rfl, hc 1 (by show 1 < 2; omega) 0 _ rfl⟩
/-- The loop's state. -/
structure BkSt (w wr : World) (X P : Nat) (tw : Bool) (v b i : Value) (w0 : Bool) (want : Int) (k : Nat) (s : GPlant) (V B : Value) : Prop where
  bel : Below w.heap.size w wr
  lay : BkLay w wr X tw v b i
  row : wr.heap[P]? = some (.cells #[V, B] 34 (0, 0))
  lo : w.heap.size ≤ P
  own : PlOwn w.heap.size wr s V B
  ok : BkOk s (!tw && w0) want
  n1 : 0 ≤ want
  n2 : want ≤ k
theorem BkOk.len {s : GPlant} {w0 : Bool} {cv : Int} (h : BkOk s w0 cv) : s.vars.length ≤ 100000 ∧ s.blocks.length ≤ 100000 := by
  obtain ⟨⟨a, b, c, d, e1, _⟩, ⟨q, e2⟩⟩ := h
  rw [e1, e2]
  exact ⟨by show 4 ≤ _; omega, by show 1 ≤ _; omega⟩
/-- A round: the new state is stored. -/
theorem BkSt.next {w wr W : World} {X P : Nat} {tw : Bool} {v b i : Value} {w0 w0' : Bool} {want want' : Int} {k : Nat} {s s' : GPlant} {V B V' B' : Value} (h : BkSt w wr X P tw v b i w0 want k s V B) (hb : Below wr.heap.size wr W) (ho : PlOwn wr.heap.size W s' V' B') (hk : BkOk s' (!tw && w0') want') (h1 : 0 ≤ want') (h2 : want' ≤ ((k + 1 : Nat) : Int)) :
    BkSt w ((W.setCell ⟨P, 0, none⟩ V').setCell ⟨P, 1, none⟩ B') X P tw v b i w0' want' (k + 1) s' V' B' := by
  have lP : P < wr.heap.size := (Array.getElem?_eq_some_iff.1 h.row).1
  have r0 := (hb.block P lP).trans h.row
  have r1 := set2_0 (u := V') r0
  have r2 := set2_1 (u := B') r1
  have hW := h.bel.trans (hb.mono h.bel.size)
  exact ⟨(hW.setCell (p := ⟨P, 0, none⟩) h.lo V').setCell (p := ⟨P, 1, none⟩) h.lo B', ((h.lay.below hb).set r0 0 V').set r1 1 B', r2, h.lo,
    ⟨((ho.v.lower h.bel.size).set r0 (by decide) 0 V').set r1 (by decide) 1 B', ((ho.b.lower h.bel.size).set r0 (by decide) 0 V').set r1 (by decide) 1 B'⟩, hk, h1, h2⟩
set_option maxHeartbeats 16000000 in
set_option maxRecDepth 100000 in
theorem bkW_any (tw : Bool) (xs : List (Bool × Bool)) (vx : Value) (w : World) (hx : Rd twoB 2 w vx xs) :
    Calls Try.prog 6 #[vx, .bool tw] w fun e w' => e = .returned (.bool true) ∧ Below w.heap.size w w' := by
  obtain ⟨Ax, cx, rfl⟩ : ∃ A c', vx = .slice A xs.length c' := by obtain ⟨_, A, c', h, _⟩ := hx; exact ⟨A, c', h⟩
  have HX := Fact.mk hx
  obtain ⟨i0, hi0, hz0, hz1, hz2⟩ := insInfoB
  have NW := Fact.mk (fun W X v b i (hW : BkLay w W X tw v b i) => snew_any (bkPg tw) (bk_wf tw) (by cases tw <;> decide) v b i 20 W hW.rd)
  have SC := Fact.mk (fun W X v b i (hW : BkLay w W X tw v b i) w0 want s V B (a r : Bool) lv (now : Int) (hs : BkOk s (!tw && w0) want) (h1 : 0 ≤ want) (h2 : want ≤ 900) (n1 : 0 ≤ now) (n2 : now ≤ 1000) (hp : PlRd W s V B) (hl : Rd oneI64 1 W lv [truthI a, truthI r]) => And.intro (scan_any (bkPg tw) (bk_wf tw) (by cases tw <;> decide) s [truthI a, truthI r] now v b i V B lv W hW.rd hp hl hs.len.1 hs.len.2) (bk_scan tw hs h1 h2 n1 n2 a r))
  have HN : newP (bkPg tw) 20 = (firstB (bkPg tw), 0) := by unfold newP; rw [if_pos (bk_check tw).2]
  rw [HN] at NW
  have FO := Fact.mk (bk_first tw)
  have BD := Fact.mk (bk_wf tw)
  clear HN hx
  cases tw
  · go_enter Try.func6, Try.ntmps6
    have O1 : Fact (Own 49 4 encIns (w.alloc (.cells #[.int .u8 2, .int .u8 0, .int .i64 0, .int .i64 0, .int .u8 2, .int .u8 0, .int .i64 1, .int .i64 0, .int .u8 1, .int .u8 4, .int .i64 0, .int .i64 3, .int .u8 20, .int .u8 0, .int .i64 0, .int .i64 0] 49)) w.heap.size (.slice (some ⟨w.heap.size, 0, none⟩) 4 4) [⟨2, 0, 0, 0⟩, ⟨2, 0, 1, 0⟩, ⟨1, 4, 0, 3⟩, ⟨20, 0, 0, 0⟩]) := ⟨own_new encIns_len (xs := [⟨2, 0, 0, 0⟩, ⟨2, 0, 1, 0⟩, ⟨1, 4, 0, 3⟩, ⟨20, 0, 0, 0⟩]) (one_block w _).2.1 (Nat.le_refl _) (by decide)⟩
    have B1 := Fact.mk (one_block w (.cells #[.int .u8 2, .int .u8 0, .int .i64 0, .int .i64 0, .int .u8 2, .int .u8 0, .int .i64 1, .int .i64 0, .int .u8 1, .int .u8 4, .int .i64 0, .int .i64 3, .int .u8 20, .int .u8 0, .int .i64 0, .int .i64 0] 49)).1
    go_upto_region 2 with (fail)
    generalize w.alloc (.cells #[.int .u8 2, .int .u8 0, .int .i64 0, .int .i64 0, .int .u8 2, .int .u8 0, .int .i64 1, .int .i64 0, .int .u8 1, .int .u8 4, .int .i64 0, .int .i64 3, .int .u8 20, .int .u8 0, .int .i64 0, .int .i64 0] 49) = w1 at *
    go_wp2_with (at_builtin; apply Classical.byContradiction; intro hstop)
    apply hstop
    clear hstop
    refine wpList_append_rd rfl _ _ 24 rfl w.heap.size 49 i0 (.agg #[.int .u8 0, .int .u8 0, .int .i64 0, .int .i64 0]) 4 24 Try.underlying24 hi0 hz0 hz1 hz2 rfl (by decide) (by decide) encIns encIns_len ins_oneB _ [⟨2, 0, 0, 0⟩, ⟨2, 0, 1, 0⟩, ⟨1, 4, 0, 3⟩, ⟨20, 0, 0, 0⟩] rfl (O1.out.below (one_block w1 _).1) _ [⟨21, 0, 0, 0⟩, ⟨3, 0, 2, 0⟩, ⟨21, 0, 0, 1⟩, ⟨3, 0, 3, 0⟩] rfl (rd_new encIns 4 encIns_len w1 [⟨21, 0, 0, 0⟩, ⟨3, 0, 2, 0⟩, ⟨21, 0, 0, 1⟩, ⟨3, 0, 3, 0⟩] 49 (by decide)) (by decide) (Nat.le_trans B1.out.size (one_block w1 _).1.size) ?_
    intro v2 W4 ho hr
    obtain ⟨A4, c4, rfl⟩ := ho.slice2
    have O4 : Fact (Own 49 4 encIns W4 w.heap.size (.slice A4 8 c4) (bkPg false).ins) := ⟨ho⟩
    have B4 : Fact (Below w.heap.size w W4) := ⟨(B1.out.trans ((one_block _ _).1.mono B1.out.size)).grown hr.g (Nat.le_trans B1.out.size (one_block _ _).1.size) (fun k hk => (World.ownsRow.lt O1.out k hk).1)⟩
    clear ho hr O1 B1
    rw [show ([⟨2, 0, 0, 0⟩, ⟨2, 0, 1, 0⟩, ⟨1, 4, 0, 3⟩, ⟨20, 0, 0, 0⟩] ++ [⟨21, 0, 0, 0⟩, ⟨3, 0, 2, 0⟩, ⟨21, 0, 0, 1⟩, ⟨3, 0, 3, 0⟩] : List GIns).length = 8 from rfl]
    obtain ⟨w5, hw5, ly5, hb5⟩ := bk_lay O4.out B4.out.size
    have LY := Fact.mk ly5
    have B5 := Fact.mk (B4.out.trans (hb5.mono B4.out.size))
    go_upto_region 6 with (fail)
    rw [← hw5]
    clear hw5 ly5 hb5 O4 B4
    obtain ⟨X, hX⟩ : ∃ X, W4.heap.size + 1 + 1 = X := ⟨_, rfl⟩
    rw [hX] at LY ⊢
    obtain ⟨k0, k1, k2, k3⟩ : w5.cell? ⟨X, 0, none⟩ = some (.string ⟨#[112]⟩) ∧ w5.cell? ⟨X, 1, none⟩ = some (.slice (some ⟨W4.heap.size, 0, none⟩) 4 4) ∧ w5.cell? ⟨X, 2, none⟩ = some (.slice (some ⟨W4.heap.size + 1, 0, none⟩) 1 1) ∧ w5.cell? ⟨X, 3, none⟩ = some (.slice A4 8 c4) := ⟨cell_of_row _ _ 0 _ _ _ LY.out.row, cell_of_row _ _ 1 _ _ _ LY.out.row, cell_of_row _ _ 2 _ _ _ LY.out.row, cell_of_row _ _ 3 _ _ _ LY.out.row⟩
    have l2 := LY.out.lt
    go_wp2_with fail
    refine (NW.out _ _ _ _ _ LY.out).mono ?_
    rintro e W3 ⟨V, B, rfl, ho3, hb3⟩
    obtain ⟨AV, nV, cV, rfl⟩ := ho3.v.slice
    obtain ⟨AB, nB, cB, rfl⟩ := ho3.b.slice
    obtain ⟨b4, r4, z4⟩ := one_block W3 (.cells #[.slice AV nV cV, .slice AB nB cB] 34)
    have B6 := B5.out.trans (hb3.mono B5.out.size)
    have ST : Fact (BkSt w (W3.alloc (.cells #[.slice AV nV cV, .slice AB nB cB] 34)) X W3.heap.size false (.slice (some ⟨W4.heap.size, 0, none⟩) 4 4) (.slice (some ⟨W4.heap.size + 1, 0, none⟩) 1 1) (.slice A4 8 c4) false 0 0 (firstB (bkPg false)) (.slice AV nV cV) (.slice AB nB cB)) := ⟨⟨B6.trans (b4.mono B6.size), (LY.out.below hb3).below b4, r4, B6.size, (ho3.below b4).lower B5.out.size, FO.out, Int.le_refl _, Int.le_refl _⟩⟩
    clear k0 k1 k2 k3 l2 ho3 hb3 B6 B5 LY NW FO BD b4 r4 z4
    go_upto_region 7 with (fail)
    generalize W3.alloc (.cells #[.slice AV nV cV, .slice AB nB cB] 34) = w6 at *
    generalize W3.heap.size = P at *
    go_wp2_with fail
    go_loopw [9, 10, 11] (fun wa ws i wr => ∃ (k : Nat) (want : Int) (w0 : Bool) (s : GPlant) (V B : Value), k ≤ xs.length ∧ k ≤ 40 ∧ i = .int .i64 k ∧ wa = .int .i64 want ∧ ws = .bool w0 ∧ Fact (BkSt w wr X P false (.slice (some ⟨W4.heap.size, 0, none⟩) 4 4) (.slice (some ⟨W4.heap.size + 1, 0, none⟩) 1 1) (.slice A4 8 c4) w0 want k s V B)) (fun _ _ i _ => 40 - (intOf i).toNat)
    case atStart => exact ⟨0, 0, false, _, _, _, Nat.zero_le _, Nat.zero_le _, rfl, rfl, rfl, ST⟩
    case round =>
      obtain ⟨k, want, w0, s, V, B, hk, hk40, rfl, rfl, rfl, HS⟩ := hrel
      clear ST
      by_cases hlt : k < xs.length
      · by_cases h40 : k < 40
        · obtain ⟨bi, oi, ci, e, c1, c2⟩ := (HX.out.below HS.out.bel).at2 k hlt
          cases e
          obtain ⟨⟨a, r⟩, hxk⟩ : ∃ x, xs[k] = x := ⟨_, rfl⟩
          rw [hxk] at c1 c2
          have i1 : (k : Int) < (xs.length : Int) := by omega
          have i2 : (k : Int) < 40 := by omega
          obtain ⟨AV', nV', cV', rfl⟩ := HS.out.own.v.slice
          obtain ⟨AB', nB', cB', rfl⟩ := HS.out.own.b.slice
          have wn1 := HS.out.n1
          have wn2 := HS.out.n2
          have ew : IntKind.i64.wrap (want + 1) = want + 1 := i64_smallB (by omega) (by omega)
          have WN : Fact (0 ≤ want ∧ want ≤ k ∧ k < 40 ∧ k + 1 ≤ xs.length) := ⟨by omega⟩
          obtain ⟨k0, k1, k2, k3⟩ : wr.cell? ⟨X, 0, none⟩ = some (.string ⟨#[112]⟩) ∧ wr.cell? ⟨X, 1, none⟩ = some (.slice (some ⟨W4.heap.size, 0, none⟩) 4 4) ∧ wr.cell? ⟨X, 2, none⟩ = some (.slice (some ⟨W4.heap.size + 1, 0, none⟩) 1 1) ∧ wr.cell? ⟨X, 3, none⟩ = some (.slice A4 8 c4) := ⟨cell_of_row _ _ 0 _ _ _ HS.out.lay.row, cell_of_row _ _ 1 _ _ _ HS.out.lay.row, cell_of_row _ _ 2 _ _ _ HS.out.lay.row, cell_of_row _ _ 3 _ _ _ HS.out.lay.row⟩
          have l2 := HS.out.lay.lt
          have j0 : wr.cell? ⟨P, 0, none⟩ = some (.slice AV' nV' cV') := cell_of_row _ _ 0 _ _ _ HS.out.row
          have j1 : wr.cell? ⟨P, 1, none⟩ = some (.slice AB' nB' cB') := cell_of_row _ _ 1 _ _ _ HS.out.row
          have lP := World.block_lt_of_cell? wr _ j0
          have lb := World.block_lt_of_cell? wr _ c1
          clear hxk wn1 wn2 hk hk40 hlt h40
          cases a <;> cases r <;> cases w0
          · obtain ⟨b7, r7, z7⟩ := one_block wr (.cells #[.int .i64 0, .int .i64 0] 2)
            obtain ⟨hscan, s', n, hs', hok⟩ := SC.out (wr.alloc (.cells #[.int .i64 0, .int .i64 0] 2)) X _ _ _ (HS.out.lay.below b7) false want s _ _ false false _ (k : Int) HS.out.ok WN.out.1 (by have := WN.out; omega) (by omega) (by have := WN.out; omega) (HS.out.own.below b7).rd (rd_cells oneI64_len (xs := [0, 0]) r7 (by show 2 ≤ _; omega))
            rw [hs'] at hscan
            have ecv : cvN (!false && false) false false want = want := rfl
            rw [ecv] at hscan hok
            have B7 := Fact.mk b7
            have OK := Fact.mk hok
            obtain ⟨q, hq⟩ : ∃ q, decide (3 ≤ want) = q := ⟨_, rfl⟩
            rw [hq] at hscan
            have CALL := Fact.mk hscan
            clear hscan hs' hok ecv b7 r7 z7 SC
            go_wp2_with fail
            refine CALL.out.mono ?_
            rintro e W5 ⟨V5, B5', O5, rfl, ho5, hO5, hb5⟩
            obtain ⟨AV5, nV5, cV5, rfl⟩ := ho5.v.slice
            obtain ⟨AB5, nB5, cB5, rfl⟩ := ho5.b.slice
            obtain ⟨g5, o5, c5, rfl, hc0, hc1⟩ := rd_two64 (hO5.rd oneI64_len)
            obtain ⟨b8, r8, z8⟩ := one_block W5 (.cells #[.slice AV5 nV5 cV5, .slice AB5 nB5 cB5] 34)
            have hbb := B7.out.trans ((hb5.trans (b8.mono hb5.size)).mono B7.out.size)
            have STN := Fact.mk (HS.out.next hbb ((ho5.below b8).lower B7.out.size) OK.out WN.out.1 (by have := WN.out; omega))
            have p8 := (hbb.block P lP).trans HS.out.row
            have d0 := cell_of_row _ _ 0 _ _ _ r8
            have d1 := cell_of_row _ _ 1 _ _ _ r8
            have ld : W5.heap.size < (W5.alloc (.cells #[.slice AV5 nV5 cV5, .slice AB5 nB5 cB5] 34)).heap.size := by rw [z8]; omega
            replace hc0 := cell_below b8 _ _ hc0
            replace hc1 := cell_below b8 _ _ hc1
            have u0 := cell_of_row _ _ 0 _ _ _ p8
            have u1 := cell_of_row _ _ 1 _ _ _ p8
            have v0 := frozen_of_row _ _ 0 _ _ p8
            have v1 := frozen_of_row _ _ 1 _ _ p8
            have l8 : P < (W5.alloc (.cells #[.slice AV5 nV5 cV5, .slice AB5 nB5 cB5] 34)).heap.size := Nat.lt_of_lt_of_le lP hbb.size
            clear k0 k1 k2 k3 j0 j1 c1 c2 l2 lb ho5 hO5 hb5 b8 r8 z8 hbb CALL OK B7 lP p8 HS
            go_upto_region 24 with (fail)
            generalize W5.alloc (.cells #[.slice AV5 nV5 cV5, .slice AB5 nB5 cB5] 34) = w8 at *
            have lg := World.block_lt_of_cell? w8 _ hc0
            cases q
            · have e1 : (truthI false == 1) = false := rfl
              go_wp2_with fail
              go_roundw
              case rel => exact ⟨k + 1, want, false, s', _, _, WN.out.2.2.2, WN.out.2.2.1, by go_num, rfl, rfl, STN⟩
              case measure => simp [intOf]; omega
            · have e1 : (truthI true == 1) = true := rfl
              go_wp2_with fail
              go_roundw
              case rel => exact ⟨k + 1, want, false, s', _, _, WN.out.2.2.2, WN.out.2.2.1, by go_num, rfl, rfl, STN⟩
              case measure => simp [intOf]; omega
          · obtain ⟨b7, r7, z7⟩ := one_block wr (.cells #[.int .i64 0, .int .i64 0] 2)
            obtain ⟨hscan, s', n, hs', hok⟩ := SC.out (wr.alloc (.cells #[.int .i64 0, .int .i64 0] 2)) X _ _ _ (HS.out.lay.below b7) true want s _ _ false false _ (k : Int) HS.out.ok WN.out.1 (by have := WN.out; omega) (by omega) (by have := WN.out; omega) (HS.out.own.below b7).rd (rd_cells oneI64_len (xs := [0, 0]) r7 (by show 2 ≤ _; omega))
            rw [hs'] at hscan
            have ecv : cvN (!false && true) false false want = want := rfl
            rw [ecv] at hscan hok
            have B7 := Fact.mk b7
            have OK := Fact.mk hok
            obtain ⟨q, hq⟩ : ∃ q, decide (3 ≤ want) = q := ⟨_, rfl⟩
            rw [hq] at hscan
            have CALL := Fact.mk hscan
            clear hscan hs' hok ecv b7 r7 z7 SC
            go_wp2_with fail
            refine CALL.out.mono ?_
            rintro e W5 ⟨V5, B5', O5, rfl, ho5, hO5, hb5⟩
            obtain ⟨AV5, nV5, cV5, rfl⟩ := ho5.v.slice
            obtain ⟨AB5, nB5, cB5, rfl⟩ := ho5.b.slice
            obtain ⟨g5, o5, c5, rfl, hc0, hc1⟩ := rd_two64 (hO5.rd oneI64_len)
            obtain ⟨b8, r8, z8⟩ := one_block W5 (.cells #[.slice AV5 nV5 cV5, .slice AB5 nB5 cB5] 34)
            have hbb := B7.out.trans ((hb5.trans (b8.mono hb5.size)).mono B7.out.size)
            have STN := Fact.mk (HS.out.next hbb ((ho5.below b8).lower B7.out.size) OK.out WN.out.1 (by have := WN.out; omega))
            have p8 := (hbb.block P lP).trans HS.out.row
            have d0 := cell_of_row _ _ 0 _ _ _ r8
            have d1 := cell_of_row _ _ 1 _ _ _ r8
            have ld : W5.heap.size < (W5.alloc (.cells #[.slice AV5 nV5 cV5, .slice AB5 nB5 cB5] 34)).heap.size := by rw [z8]; omega
            replace hc0 := cell_below b8 _ _ hc0
            replace hc1 := cell_below b8 _ _ hc1
            have u0 := cell_of_row _ _ 0 _ _ _ p8
            have u1 := cell_of_row _ _ 1 _ _ _ p8
            have v0 := frozen_of_row _ _ 0 _ _ p8
            have v1 := frozen_of_row _ _ 1 _ _ p8
            have l8 : P < (W5.alloc (.cells #[.slice AV5 nV5 cV5, .slice AB5 nB5 cB5] 34)).heap.size := Nat.lt_of_lt_of_le lP hbb.size
            clear k0 k1 k2 k3 j0 j1 c1 c2 l2 lb ho5 hO5 hb5 b8 r8 z8 hbb CALL OK B7 lP p8 HS
            go_upto_region 24 with (fail)
            generalize W5.alloc (.cells #[.slice AV5 nV5 cV5, .slice AB5 nB5 cB5] 34) = w8 at *
            have lg := World.block_lt_of_cell? w8 _ hc0
            cases q
            · have e1 : (truthI false == 1) = false := rfl
              go_wp2_with fail
              go_roundw
              case rel => exact ⟨k + 1, want, false, s', _, _, WN.out.2.2.2, WN.out.2.2.1, by go_num, rfl, rfl, STN⟩
              case measure => simp [intOf]; omega
            · have e1 : (truthI true == 1) = true := rfl
              go_wp2_with fail
              go_roundw
              case rel => exact ⟨k + 1, want, false, s', _, _, WN.out.2.2.2, WN.out.2.2.1, by go_num, rfl, rfl, STN⟩
              case measure => simp [intOf]; omega
          · obtain ⟨b7, r7, z7⟩ := one_block wr (.cells #[.int .i64 0, .int .i64 1] 2)
            obtain ⟨hscan, s', n, hs', hok⟩ := SC.out (wr.alloc (.cells #[.int .i64 0, .int .i64 1] 2)) X _ _ _ (HS.out.lay.below b7) false want s _ _ false true _ (k : Int) HS.out.ok WN.out.1 (by have := WN.out; omega) (by omega) (by have := WN.out; omega) (HS.out.own.below b7).rd (rd_cells oneI64_len (xs := [0, 1]) r7 (by show 2 ≤ _; omega))
            rw [hs'] at hscan
            have ecv : cvN (!false && false) false true want = (0 : Int) := rfl
            rw [ecv] at hscan hok
            have B7 := Fact.mk b7
            have OK := Fact.mk hok
            obtain ⟨q, hq⟩ : ∃ q, decide (3 ≤ (0 : Int)) = q := ⟨_, rfl⟩
            rw [hq] at hscan
            have CALL := Fact.mk hscan
            clear hscan hs' hok ecv b7 r7 z7 SC
            go_wp2_with fail
            refine CALL.out.mono ?_
            rintro e W5 ⟨V5, B5', O5, rfl, ho5, hO5, hb5⟩
            obtain ⟨AV5, nV5, cV5, rfl⟩ := ho5.v.slice
            obtain ⟨AB5, nB5, cB5, rfl⟩ := ho5.b.slice
            obtain ⟨g5, o5, c5, rfl, hc0, hc1⟩ := rd_two64 (hO5.rd oneI64_len)
            obtain ⟨b8, r8, z8⟩ := one_block W5 (.cells #[.slice AV5 nV5 cV5, .slice AB5 nB5 cB5] 34)
            have hbb := B7.out.trans ((hb5.trans (b8.mono hb5.size)).mono B7.out.size)
            have STN := Fact.mk (HS.out.next hbb ((ho5.below b8).lower B7.out.size) OK.out (Int.le_refl _) (by have := WN.out; omega))
            have p8 := (hbb.block P lP).trans HS.out.row
            have d0 := cell_of_row _ _ 0 _ _ _ r8
            have d1 := cell_of_row _ _ 1 _ _ _ r8
            have ld : W5.heap.size < (W5.alloc (.cells #[.slice AV5 nV5 cV5, .slice AB5 nB5 cB5] 34)).heap.size := by rw [z8]; omega
            replace hc0 := cell_below b8 _ _ hc0
            replace hc1 := cell_below b8 _ _ hc1
            have u0 := cell_of_row _ _ 0 _ _ _ p8
            have u1 := cell_of_row _ _ 1 _ _ _ p8
            have v0 := frozen_of_row _ _ 0 _ _ p8
            have v1 := frozen_of_row _ _ 1 _ _ p8
            have l8 : P < (W5.alloc (.cells #[.slice AV5 nV5 cV5, .slice AB5 nB5 cB5] 34)).heap.size := Nat.lt_of_lt_of_le lP hbb.size
            clear k0 k1 k2 k3 j0 j1 c1 c2 l2 lb ho5 hO5 hb5 b8 r8 z8 hbb CALL OK B7 lP p8 HS
            go_upto_region 24 with (fail)
            generalize W5.alloc (.cells #[.slice AV5 nV5 cV5, .slice AB5 nB5 cB5] 34) = w8 at *
            have lg := World.block_lt_of_cell? w8 _ hc0
            obtain rfl : false = q := hq
            have e1 : (truthI false == 1) = false := rfl
            go_wp2_with fail
            go_roundw
            case rel => exact ⟨k + 1, (0 : Int), false, s', _, _, WN.out.2.2.2, WN.out.2.2.1, by go_num, rfl, rfl, STN⟩
            case measure => simp [intOf]; omega
          · obtain ⟨b7, r7, z7⟩ := one_block wr (.cells #[.int .i64 0, .int .i64 1] 2)
            obtain ⟨hscan, s', n, hs', hok⟩ := SC.out (wr.alloc (.cells #[.int .i64 0, .int .i64 1] 2)) X _ _ _ (HS.out.lay.below b7) true want s _ _ false true _ (k : Int) HS.out.ok WN.out.1 (by have := WN.out; omega) (by omega) (by have := WN.out; omega) (HS.out.own.below b7).rd (rd_cells oneI64_len (xs := [0, 1]) r7 (by show 2 ≤ _; omega))
            rw [hs'] at hscan
            have ecv : cvN (!false && true) false true want = (0 : Int) := rfl
            rw [ecv] at hscan hok
            have B7 := Fact.mk b7
            have OK := Fact.mk hok
            obtain ⟨q, hq⟩ : ∃ q, decide (3 ≤ (0 : Int)) = q := ⟨_, rfl⟩
            rw [hq] at hscan
            have CALL := Fact.mk hscan
            clear hscan hs' hok ecv b7 r7 z7 SC
            go_wp2_with fail
            refine CALL.out.mono ?_
            rintro e W5 ⟨V5, B5', O5, rfl, ho5, hO5, hb5⟩
            obtain ⟨AV5, nV5, cV5, rfl⟩ := ho5.v.slice
            obtain ⟨AB5, nB5, cB5, rfl⟩ := ho5.b.slice
            obtain ⟨g5, o5, c5, rfl, hc0, hc1⟩ := rd_two64 (hO5.rd oneI64_len)
            obtain ⟨b8, r8, z8⟩ := one_block W5 (.cells #[.slice AV5 nV5 cV5, .slice AB5 nB5 cB5] 34)
            have hbb := B7.out.trans ((hb5.trans (b8.mono hb5.size)).mono B7.out.size)
            have STN := Fact.mk (HS.out.next hbb ((ho5.below b8).lower B7.out.size) OK.out (Int.le_refl _) (by have := WN.out; omega))
            have p8 := (hbb.block P lP).trans HS.out.row
            have d0 := cell_of_row _ _ 0 _ _ _ r8
            have d1 := cell_of_row _ _ 1 _ _ _ r8
            have ld : W5.heap.size < (W5.alloc (.cells #[.slice AV5 nV5 cV5, .slice AB5 nB5 cB5] 34)).heap.size := by rw [z8]; omega
            replace hc0 := cell_below b8 _ _ hc0
            replace hc1 := cell_below b8 _ _ hc1
            have u0 := cell_of_row _ _ 0 _ _ _ p8
            have u1 := cell_of_row _ _ 1 _ _ _ p8
            have v0 := frozen_of_row _ _ 0 _ _ p8
            have v1 := frozen_of_row _ _ 1 _ _ p8
            have l8 : P < (W5.alloc (.cells #[.slice AV5 nV5 cV5, .slice AB5 nB5 cB5] 34)).heap.size := Nat.lt_of_lt_of_le lP hbb.size
            clear k0 k1 k2 k3 j0 j1 c1 c2 l2 lb ho5 hO5 hb5 b8 r8 z8 hbb CALL OK B7 lP p8 HS
            go_upto_region 24 with (fail)
            generalize W5.alloc (.cells #[.slice AV5 nV5 cV5, .slice AB5 nB5 cB5] 34) = w8 at *
            have lg := World.block_lt_of_cell? w8 _ hc0
            obtain rfl : false = q := hq
            have e1 : (truthI false == 1) = false := rfl
            go_wp2_with fail
            go_roundw
            case rel => exact ⟨k + 1, (0 : Int), false, s', _, _, WN.out.2.2.2, WN.out.2.2.1, by go_num, rfl, rfl, STN⟩
            case measure => simp [intOf]; omega
          · obtain ⟨b7, r7, z7⟩ := one_block wr (.cells #[.int .i64 1, .int .i64 0] 2)
            obtain ⟨hscan, s', n, hs', hok⟩ := SC.out (wr.alloc (.cells #[.int .i64 1, .int .i64 0] 2)) X _ _ _ (HS.out.lay.below b7) false want s _ _ true false _ (k : Int) HS.out.ok WN.out.1 (by have := WN.out; omega) (by omega) (by have := WN.out; omega) (HS.out.own.below b7).rd (rd_cells oneI64_len (xs := [1, 0]) r7 (by show 2 ≤ _; omega))
            rw [hs'] at hscan
            have ecv : cvN (!false && false) true false want = (want + 1) := rfl
            rw [ecv] at hscan hok
            have B7 := Fact.mk b7
            have OK := Fact.mk hok
            obtain ⟨q, hq⟩ : ∃ q, decide (3 ≤ (want + 1)) = q := ⟨_, rfl⟩
            rw [hq] at hscan
            have CALL := Fact.mk hscan
            clear hscan hs' hok ecv b7 r7 z7 SC
            go_wp2_with fail
            refine CALL.out.mono ?_
            rintro e W5 ⟨V5, B5', O5, rfl, ho5, hO5, hb5⟩
            obtain ⟨AV5, nV5, cV5, rfl⟩ := ho5.v.slice
            obtain ⟨AB5, nB5, cB5, rfl⟩ := ho5.b.slice
            obtain ⟨g5, o5, c5, rfl, hc0, hc1⟩ := rd_two64 (hO5.rd oneI64_len)
            obtain ⟨b8, r8, z8⟩ := one_block W5 (.cells #[.slice AV5 nV5 cV5, .slice AB5 nB5 cB5] 34)
            have hbb := B7.out.trans ((hb5.trans (b8.mono hb5.size)).mono B7.out.size)
            have STN := Fact.mk (HS.out.next hbb ((ho5.below b8).lower B7.out.size) OK.out (by have := WN.out; omega) (by have := WN.out; omega))
            have p8 := (hbb.block P lP).trans HS.out.row
            have d0 := cell_of_row _ _ 0 _ _ _ r8
            have d1 := cell_of_row _ _ 1 _ _ _ r8
            have ld : W5.heap.size < (W5.alloc (.cells #[.slice AV5 nV5 cV5, .slice AB5 nB5 cB5] 34)).heap.size := by rw [z8]; omega
            replace hc0 := cell_below b8 _ _ hc0
            replace hc1 := cell_below b8 _ _ hc1
            have u0 := cell_of_row _ _ 0 _ _ _ p8
            have u1 := cell_of_row _ _ 1 _ _ _ p8
            have v0 := frozen_of_row _ _ 0 _ _ p8
            have v1 := frozen_of_row _ _ 1 _ _ p8
            have l8 : P < (W5.alloc (.cells #[.slice AV5 nV5 cV5, .slice AB5 nB5 cB5] 34)).heap.size := Nat.lt_of_lt_of_le lP hbb.size
            clear k0 k1 k2 k3 j0 j1 c1 c2 l2 lb ho5 hO5 hb5 b8 r8 z8 hbb CALL OK B7 lP p8 HS
            go_upto_region 24 with (fail)
            generalize W5.alloc (.cells #[.slice AV5 nV5 cV5, .slice AB5 nB5 cB5] 34) = w8 at *
            have lg := World.block_lt_of_cell? w8 _ hc0
            cases q
            · have e1 : (truthI false == 1) = false := rfl
              go_wp2_with fail
              go_roundw
              case rel => exact ⟨k + 1, (want + 1), true, s', _, _, WN.out.2.2.2, WN.out.2.2.1, by go_num, rfl, rfl, STN⟩
              case measure => simp [intOf]; omega
            · have e1 : (truthI true == 1) = true := rfl
              go_wp2_with fail
              go_roundw
              case rel => exact ⟨k + 1, (want + 1), true, s', _, _, WN.out.2.2.2, WN.out.2.2.1, by go_num, rfl, rfl, STN⟩
              case measure => simp [intOf]; omega
          · obtain ⟨b7, r7, z7⟩ := one_block wr (.cells #[.int .i64 1, .int .i64 0] 2)
            obtain ⟨hscan, s', n, hs', hok⟩ := SC.out (wr.alloc (.cells #[.int .i64 1, .int .i64 0] 2)) X _ _ _ (HS.out.lay.below b7) true want s _ _ true false _ (k : Int) HS.out.ok WN.out.1 (by have := WN.out; omega) (by omega) (by have := WN.out; omega) (HS.out.own.below b7).rd (rd_cells oneI64_len (xs := [1, 0]) r7 (by show 2 ≤ _; omega))
            rw [hs'] at hscan
            have ecv : cvN (!false && true) true false want = want := rfl
            rw [ecv] at hscan hok
            have B7 := Fact.mk b7
            have OK := Fact.mk hok
            obtain ⟨q, hq⟩ : ∃ q, decide (3 ≤ want) = q := ⟨_, rfl⟩
            rw [hq] at hscan
            have CALL := Fact.mk hscan
            clear hscan hs' hok ecv b7 r7 z7 SC
            go_wp2_with fail
            refine CALL.out.mono ?_
            rintro e W5 ⟨V5, B5', O5, rfl, ho5, hO5, hb5⟩
            obtain ⟨AV5, nV5, cV5, rfl⟩ := ho5.v.slice
            obtain ⟨AB5, nB5, cB5, rfl⟩ := ho5.b.slice
            obtain ⟨g5, o5, c5, rfl, hc0, hc1⟩ := rd_two64 (hO5.rd oneI64_len)
            obtain ⟨b8, r8, z8⟩ := one_block W5 (.cells #[.slice AV5 nV5 cV5, .slice AB5 nB5 cB5] 34)
            have hbb := B7.out.trans ((hb5.trans (b8.mono hb5.size)).mono B7.out.size)
            have STN := Fact.mk (HS.out.next hbb ((ho5.below b8).lower B7.out.size) OK.out WN.out.1 (by have := WN.out; omega))
            have p8 := (hbb.block P lP).trans HS.out.row
            have d0 := cell_of_row _ _ 0 _ _ _ r8
            have d1 := cell_of_row _ _ 1 _ _ _ r8
            have ld : W5.heap.size < (W5.alloc (.cells #[.slice AV5 nV5 cV5, .slice AB5 nB5 cB5] 34)).heap.size := by rw [z8]; omega
            replace hc0 := cell_below b8 _ _ hc0
            replace hc1 := cell_below b8 _ _ hc1
            have u0 := cell_of_row _ _ 0 _ _ _ p8
            have u1 := cell_of_row _ _ 1 _ _ _ p8
            have v0 := frozen_of_row _ _ 0 _ _ p8
            have v1 := frozen_of_row _ _ 1 _ _ p8
            have l8 : P < (W5.alloc (.cells #[.slice AV5 nV5 cV5, .slice AB5 nB5 cB5] 34)).heap.size := Nat.lt_of_lt_of_le lP hbb.size
            clear k0 k1 k2 k3 j0 j1 c1 c2 l2 lb ho5 hO5 hb5 b8 r8 z8 hbb CALL OK B7 lP p8 HS
            go_upto_region 24 with (fail)
            generalize W5.alloc (.cells #[.slice AV5 nV5 cV5, .slice AB5 nB5 cB5] 34) = w8 at *
            have lg := World.block_lt_of_cell? w8 _ hc0
            cases q
            · have e1 : (truthI false == 1) = false := rfl
              go_wp2_with fail
              go_roundw
              case rel => exact ⟨k + 1, want, true, s', _, _, WN.out.2.2.2, WN.out.2.2.1, by go_num, rfl, rfl, STN⟩
              case measure => simp [intOf]; omega
            · have e1 : (truthI true == 1) = true := rfl
              go_wp2_with fail
              go_roundw
              case rel => exact ⟨k + 1, want, true, s', _, _, WN.out.2.2.2, WN.out.2.2.1, by go_num, rfl, rfl, STN⟩
              case measure => simp [intOf]; omega
          · obtain ⟨b7, r7, z7⟩ := one_block wr (.cells #[.int .i64 1, .int .i64 1] 2)
            obtain ⟨hscan, s', n, hs', hok⟩ := SC.out (wr.alloc (.cells #[.int .i64 1, .int .i64 1] 2)) X _ _ _ (HS.out.lay.below b7) false want s _ _ true true _ (k : Int) HS.out.ok WN.out.1 (by have := WN.out; omega) (by omega) (by have := WN.out; omega) (HS.out.own.below b7).rd (rd_cells oneI64_len (xs := [1, 1]) r7 (by show 2 ≤ _; omega))
            rw [hs'] at hscan
            have ecv : cvN (!false && false) true true want = (0 : Int) := rfl
            rw [ecv] at hscan hok
            have B7 := Fact.mk b7
            have OK := Fact.mk hok
            obtain ⟨q, hq⟩ : ∃ q, decide (3 ≤ (0 : Int)) = q := ⟨_, rfl⟩
            rw [hq] at hscan
            have CALL := Fact.mk hscan
            clear hscan hs' hok ecv b7 r7 z7 SC
            go_wp2_with fail
            refine CALL.out.mono ?_
            rintro e W5 ⟨V5, B5', O5, rfl, ho5, hO5, hb5⟩
            obtain ⟨AV5, nV5, cV5, rfl⟩ := ho5.v.slice
            obtain ⟨AB5, nB5, cB5, rfl⟩ := ho5.b.slice
            obtain ⟨g5, o5, c5, rfl, hc0, hc1⟩ := rd_two64 (hO5.rd oneI64_len)
            obtain ⟨b8, r8, z8⟩ := one_block W5 (.cells #[.slice AV5 nV5 cV5, .slice AB5 nB5 cB5] 34)
            have hbb := B7.out.trans ((hb5.trans (b8.mono hb5.size)).mono B7.out.size)
            have STN := Fact.mk (HS.out.next hbb ((ho5.below b8).lower B7.out.size) OK.out (Int.le_refl _) (by have := WN.out; omega))
            have p8 := (hbb.block P lP).trans HS.out.row
            have d0 := cell_of_row _ _ 0 _ _ _ r8
            have d1 := cell_of_row _ _ 1 _ _ _ r8
            have ld : W5.heap.size < (W5.alloc (.cells #[.slice AV5 nV5 cV5, .slice AB5 nB5 cB5] 34)).heap.size := by rw [z8]; omega
            replace hc0 := cell_below b8 _ _ hc0
            replace hc1 := cell_below b8 _ _ hc1
            have u0 := cell_of_row _ _ 0 _ _ _ p8
            have u1 := cell_of_row _ _ 1 _ _ _ p8
            have v0 := frozen_of_row _ _ 0 _ _ p8
            have v1 := frozen_of_row _ _ 1 _ _ p8
            have l8 : P < (W5.alloc (.cells #[.slice AV5 nV5 cV5, .slice AB5 nB5 cB5] 34)).heap.size := Nat.lt_of_lt_of_le lP hbb.size
            clear k0 k1 k2 k3 j0 j1 c1 c2 l2 lb ho5 hO5 hb5 b8 r8 z8 hbb CALL OK B7 lP p8 HS
            go_upto_region 24 with (fail)
            generalize W5.alloc (.cells #[.slice AV5 nV5 cV5, .slice AB5 nB5 cB5] 34) = w8 at *
            have lg := World.block_lt_of_cell? w8 _ hc0
            obtain rfl : false = q := hq
            have e1 : (truthI false == 1) = false := rfl
            go_wp2_with fail
            go_roundw
            case rel => exact ⟨k + 1, (0 : Int), true, s', _, _, WN.out.2.2.2, WN.out.2.2.1, by go_num, rfl, rfl, STN⟩
            case measure => simp [intOf]; omega
          · obtain ⟨b7, r7, z7⟩ := one_block wr (.cells #[.int .i64 1, .int .i64 1] 2)
            obtain ⟨hscan, s', n, hs', hok⟩ := SC.out (wr.alloc (.cells #[.int .i64 1, .int .i64 1] 2)) X _ _ _ (HS.out.lay.below b7) true want s _ _ true true _ (k : Int) HS.out.ok WN.out.1 (by have := WN.out; omega) (by omega) (by have := WN.out; omega) (HS.out.own.below b7).rd (rd_cells oneI64_len (xs := [1, 1]) r7 (by show 2 ≤ _; omega))
            rw [hs'] at hscan
            have ecv : cvN (!false && true) true true want = (0 : Int) := rfl
            rw [ecv] at hscan hok
            have B7 := Fact.mk b7
            have OK := Fact.mk hok
            obtain ⟨q, hq⟩ : ∃ q, decide (3 ≤ (0 : Int)) = q := ⟨_, rfl⟩
            rw [hq] at hscan
            have CALL := Fact.mk hscan
            clear hscan hs' hok ecv b7 r7 z7 SC
            go_wp2_with fail
            refine CALL.out.mono ?_
            rintro e W5 ⟨V5, B5', O5, rfl, ho5, hO5, hb5⟩
            obtain ⟨AV5, nV5, cV5, rfl⟩ := ho5.v.slice
            obtain ⟨AB5, nB5, cB5, rfl⟩ := ho5.b.slice
            obtain ⟨g5, o5, c5, rfl, hc0, hc1⟩ := rd_two64 (hO5.rd oneI64_len)
            obtain ⟨b8, r8, z8⟩ := one_block W5 (.cells #[.slice AV5 nV5 cV5, .slice AB5 nB5 cB5] 34)
            have hbb := B7.out.trans ((hb5.trans (b8.mono hb5.size)).mono B7.out.size)
            have STN := Fact.mk (HS.out.next hbb ((ho5.below b8).lower B7.out.size) OK.out (Int.le_refl _) (by have := WN.out; omega))
            have p8 := (hbb.block P lP).trans HS.out.row
            have d0 := cell_of_row _ _ 0 _ _ _ r8
            have d1 := cell_of_row _ _ 1 _ _ _ r8
            have ld : W5.heap.size < (W5.alloc (.cells #[.slice AV5 nV5 cV5, .slice AB5 nB5 cB5] 34)).heap.size := by rw [z8]; omega
            replace hc0 := cell_below b8 _ _ hc0
            replace hc1 := cell_below b8 _ _ hc1
            have u0 := cell_of_row _ _ 0 _ _ _ p8
            have u1 := cell_of_row _ _ 1 _ _ _ p8
            have v0 := frozen_of_row _ _ 0 _ _ p8
            have v1 := frozen_of_row _ _ 1 _ _ p8
            have l8 : P < (W5.alloc (.cells #[.slice AV5 nV5 cV5, .slice AB5 nB5 cB5] 34)).heap.size := Nat.lt_of_lt_of_le lP hbb.size
            clear k0 k1 k2 k3 j0 j1 c1 c2 l2 lb ho5 hO5 hb5 b8 r8 z8 hbb CALL OK B7 lP p8 HS
            go_upto_region 24 with (fail)
            generalize W5.alloc (.cells #[.slice AV5 nV5 cV5, .slice AB5 nB5 cB5] 34) = w8 at *
            have lg := World.block_lt_of_cell? w8 _ hc0
            obtain rfl : false = q := hq
            have e1 : (truthI false == 1) = false := rfl
            go_wp2_with fail
            go_roundw
            case rel => exact ⟨k + 1, (0 : Int), true, s', _, _, WN.out.2.2.2, WN.out.2.2.1, by go_num, rfl, rfl, STN⟩
            case measure => simp [intOf]; omega
        · obtain rfl : k = 40 := by omega
          have i1 : ((40 : Nat) : Int) < (xs.length : Int) := by omega
          have HB := Fact.mk HS.out.bel
          clear HS SC
          go_wp2_with fail
          refine (awkS_any _).mono ?_
          rintro e W8 ⟨rfl, hb8⟩
          have BL9 := Fact.mk (HB.out.trans (hb8.mono HB.out.size))
          clear hb8 HB
          go_wp2
          go_ret
          exact ⟨rfl, BL9.out⟩
      · obtain rfl : k = xs.length := by omega
        have HB := Fact.mk HS.out.bel
        clear HS SC
        go_wp2_with fail
        refine (awkS_any _).mono ?_
        rintro e W8 ⟨rfl, hb8⟩
        have BL9 := Fact.mk (HB.out.trans (hb8.mono HB.out.size))
        clear hb8 HB
        go_wp2
        go_ret
        exact ⟨rfl, BL9.out⟩
  · go_enter Try.func6, Try.ntmps6
    have O1 : Fact (Own 49 4 encIns (w.alloc (.cells #[.int .u8 2, .int .u8 0, .int .i64 0, .int .i64 0, .int .u8 2, .int .u8 0, .int .i64 1, .int .i64 0, .int .u8 1, .int .u8 4, .int .i64 0, .int .i64 3, .int .u8 20, .int .u8 0, .int .i64 0, .int .i64 0] 49)) w.heap.size (.slice (some ⟨w.heap.size, 0, none⟩) 4 4) [⟨2, 0, 0, 0⟩, ⟨2, 0, 1, 0⟩, ⟨1, 4, 0, 3⟩, ⟨20, 0, 0, 0⟩]) := ⟨own_new encIns_len (xs := [⟨2, 0, 0, 0⟩, ⟨2, 0, 1, 0⟩, ⟨1, 4, 0, 3⟩, ⟨20, 0, 0, 0⟩]) (one_block w _).2.1 (Nat.le_refl _) (by decide)⟩
    have B1 := Fact.mk (one_block w (.cells #[.int .u8 2, .int .u8 0, .int .i64 0, .int .i64 0, .int .u8 2, .int .u8 0, .int .i64 1, .int .i64 0, .int .u8 1, .int .u8 4, .int .i64 0, .int .i64 3, .int .u8 20, .int .u8 0, .int .i64 0, .int .i64 0] 49)).1
    go_upto_region 2 with (fail)
    generalize w.alloc (.cells #[.int .u8 2, .int .u8 0, .int .i64 0, .int .i64 0, .int .u8 2, .int .u8 0, .int .i64 1, .int .i64 0, .int .u8 1, .int .u8 4, .int .i64 0, .int .i64 3, .int .u8 20, .int .u8 0, .int .i64 0, .int .i64 0] 49) = w1 at *
    go_wp2_with (at_builtin; apply Classical.byContradiction; intro hstop)
    apply hstop
    clear hstop
    refine wpList_append_rd rfl _ _ 24 rfl w.heap.size 49 i0 (.agg #[.int .u8 0, .int .u8 0, .int .i64 0, .int .i64 0]) 4 24 Try.underlying24 hi0 hz0 hz1 hz2 rfl (by decide) (by decide) encIns encIns_len ins_oneB _ [⟨2, 0, 0, 0⟩, ⟨2, 0, 1, 0⟩, ⟨1, 4, 0, 3⟩, ⟨20, 0, 0, 0⟩] rfl (O1.out.below (one_block w1 _).1) _ [⟨1, 1, 0, 0⟩, ⟨2, 0, 1, 0⟩, ⟨1, 4, 0, 3⟩, ⟨20, 0, 0, 0⟩] rfl (rd_new encIns 4 encIns_len w1 [⟨1, 1, 0, 0⟩, ⟨2, 0, 1, 0⟩, ⟨1, 4, 0, 3⟩, ⟨20, 0, 0, 0⟩] 49 (by decide)) (by decide) (Nat.le_trans B1.out.size (one_block w1 _).1.size) ?_
    intro v1 W1 ho hr
    obtain ⟨A1, c1, rfl⟩ := ho.slice2
    have O2 : Fact (Own 49 4 encIns W1 w.heap.size (.slice A1 8 c1) [⟨2, 0, 0, 0⟩, ⟨2, 0, 1, 0⟩, ⟨1, 4, 0, 3⟩, ⟨20, 0, 0, 0⟩, ⟨1, 1, 0, 0⟩, ⟨2, 0, 1, 0⟩, ⟨1, 4, 0, 3⟩, ⟨20, 0, 0, 0⟩]) := ⟨ho⟩
    have B2 : Fact (Below w.heap.size w W1) := ⟨(B1.out.trans ((one_block _ _).1.mono B1.out.size)).grown hr.g (Nat.le_trans B1.out.size (one_block _ _).1.size) (fun k hk => (World.ownsRow.lt O1.out k hk).1)⟩
    clear ho hr O1 B1
    rw [show ([⟨2, 0, 0, 0⟩, ⟨2, 0, 1, 0⟩, ⟨1, 4, 0, 3⟩, ⟨20, 0, 0, 0⟩] ++ [⟨1, 1, 0, 0⟩, ⟨2, 0, 1, 0⟩, ⟨1, 4, 0, 3⟩, ⟨20, 0, 0, 0⟩] : List GIns).length = 8 from rfl]
    go_wp2_with (at_builtin; apply Classical.byContradiction; intro hstop)
    apply hstop
    clear hstop
    refine wpList_append_rd rfl _ _ 24 rfl w.heap.size 49 i0 (.agg #[.int .u8 0, .int .u8 0, .int .i64 0, .int .i64 0]) 4 24 Try.underlying24 hi0 hz0 hz1 hz2 rfl (by decide) (by decide) encIns encIns_len ins_oneB _ [⟨2, 0, 0, 0⟩, ⟨2, 0, 1, 0⟩, ⟨1, 4, 0, 3⟩, ⟨20, 0, 0, 0⟩, ⟨1, 1, 0, 0⟩, ⟨2, 0, 1, 0⟩, ⟨1, 4, 0, 3⟩, ⟨20, 0, 0, 0⟩] rfl (O2.out.below (one_block W1 _).1) _ [⟨21, 0, 0, 0⟩, ⟨3, 0, 2, 0⟩, ⟨21, 0, 0, 1⟩, ⟨3, 0, 3, 0⟩] rfl (rd_new encIns 4 encIns_len W1 [⟨21, 0, 0, 0⟩, ⟨3, 0, 2, 0⟩, ⟨21, 0, 0, 1⟩, ⟨3, 0, 3, 0⟩] 49 (by decide)) (by decide) (Nat.le_trans B2.out.size (one_block W1 _).1.size) ?_
    intro v2 W4 ho hr
    obtain ⟨A4, c4, rfl⟩ := ho.slice2
    have O4 : Fact (Own 49 4 encIns W4 w.heap.size (.slice A4 12 c4) (bkPg true).ins) := ⟨ho⟩
    have B4 : Fact (Below w.heap.size w W4) := ⟨(B2.out.trans ((one_block _ _).1.mono B2.out.size)).grown hr.g (Nat.le_trans B2.out.size (one_block _ _).1.size) (fun k hk => (World.ownsRow.lt O2.out k hk).1)⟩
    clear ho hr O2 B2
    rw [show ([⟨2, 0, 0, 0⟩, ⟨2, 0, 1, 0⟩, ⟨1, 4, 0, 3⟩, ⟨20, 0, 0, 0⟩, ⟨1, 1, 0, 0⟩, ⟨2, 0, 1, 0⟩, ⟨1, 4, 0, 3⟩, ⟨20, 0, 0, 0⟩] ++ [⟨21, 0, 0, 0⟩, ⟨3, 0, 2, 0⟩, ⟨21, 0, 0, 1⟩, ⟨3, 0, 3, 0⟩] : List GIns).length = 12 from rfl]
    obtain ⟨w5, hw5, ly5, hb5⟩ := bk_lay O4.out B4.out.size
    have LY := Fact.mk ly5
    have B5 := Fact.mk (B4.out.trans (hb5.mono B4.out.size))
    go_upto_region 6 with (fail)
    rw [← hw5]
    clear hw5 ly5 hb5 O4 B4
    obtain ⟨X, hX⟩ : ∃ X, W4.heap.size + 1 + 1 = X := ⟨_, rfl⟩
    rw [hX] at LY ⊢
    obtain ⟨k0, k1, k2, k3⟩ : w5.cell? ⟨X, 0, none⟩ = some (.string ⟨#[112]⟩) ∧ w5.cell? ⟨X, 1, none⟩ = some (.slice (some ⟨W4.heap.size, 0, none⟩) 4 4) ∧ w5.cell? ⟨X, 2, none⟩ = some (.slice (some ⟨W4.heap.size + 1, 0, none⟩) 1 1) ∧ w5.cell? ⟨X, 3, none⟩ = some (.slice A4 12 c4) := ⟨cell_of_row _ _ 0 _ _ _ LY.out.row, cell_of_row _ _ 1 _ _ _ LY.out.row, cell_of_row _ _ 2 _ _ _ LY.out.row, cell_of_row _ _ 3 _ _ _ LY.out.row⟩
    have l2 := LY.out.lt
    go_wp2_with fail
    refine (NW.out _ _ _ _ _ LY.out).mono ?_
    rintro e W3 ⟨V, B, rfl, ho3, hb3⟩
    obtain ⟨AV, nV, cV, rfl⟩ := ho3.v.slice
    obtain ⟨AB, nB, cB, rfl⟩ := ho3.b.slice
    obtain ⟨b4, r4, z4⟩ := one_block W3 (.cells #[.slice AV nV cV, .slice AB nB cB] 34)
    have B6 := B5.out.trans (hb3.mono B5.out.size)
    have ST : Fact (BkSt w (W3.alloc (.cells #[.slice AV nV cV, .slice AB nB cB] 34)) X W3.heap.size true (.slice (some ⟨W4.heap.size, 0, none⟩) 4 4) (.slice (some ⟨W4.heap.size + 1, 0, none⟩) 1 1) (.slice A4 12 c4) false 0 0 (firstB (bkPg true)) (.slice AV nV cV) (.slice AB nB cB)) := ⟨⟨B6.trans (b4.mono B6.size), (LY.out.below hb3).below b4, r4, B6.size, (ho3.below b4).lower B5.out.size, FO.out, Int.le_refl _, Int.le_refl _⟩⟩
    clear k0 k1 k2 k3 l2 ho3 hb3 B6 B5 LY NW FO BD b4 r4 z4
    go_upto_region 7 with (fail)
    generalize W3.alloc (.cells #[.slice AV nV cV, .slice AB nB cB] 34) = w6 at *
    generalize W3.heap.size = P at *
    go_wp2_with fail
    go_loopw [9, 10, 11] (fun wa ws i wr => ∃ (k : Nat) (want : Int) (w0 : Bool) (s : GPlant) (V B : Value), k ≤ xs.length ∧ k ≤ 40 ∧ i = .int .i64 k ∧ wa = .int .i64 want ∧ ws = .bool w0 ∧ Fact (BkSt w wr X P true (.slice (some ⟨W4.heap.size, 0, none⟩) 4 4) (.slice (some ⟨W4.heap.size + 1, 0, none⟩) 1 1) (.slice A4 12 c4) w0 want k s V B)) (fun _ _ i _ => 40 - (intOf i).toNat)
    case atStart => exact ⟨0, 0, false, _, _, _, Nat.zero_le _, Nat.zero_le _, rfl, rfl, rfl, ST⟩
    case round =>
      obtain ⟨k, want, w0, s, V, B, hk, hk40, rfl, rfl, rfl, HS⟩ := hrel
      clear ST
      by_cases hlt : k < xs.length
      · by_cases h40 : k < 40
        · obtain ⟨bi, oi, ci, e, c1, c2⟩ := (HX.out.below HS.out.bel).at2 k hlt
          cases e
          obtain ⟨⟨a, r⟩, hxk⟩ : ∃ x, xs[k] = x := ⟨_, rfl⟩
          rw [hxk] at c1 c2
          have i1 : (k : Int) < (xs.length : Int) := by omega
          have i2 : (k : Int) < 40 := by omega
          obtain ⟨AV', nV', cV', rfl⟩ := HS.out.own.v.slice
          obtain ⟨AB', nB', cB', rfl⟩ := HS.out.own.b.slice
          have wn1 := HS.out.n1
          have wn2 := HS.out.n2
          have ew : IntKind.i64.wrap (want + 1) = want + 1 := i64_smallB (by omega) (by omega)
          have WN : Fact (0 ≤ want ∧ want ≤ k ∧ k < 40 ∧ k + 1 ≤ xs.length) := ⟨by omega⟩
          obtain ⟨k0, k1, k2, k3⟩ : wr.cell? ⟨X, 0, none⟩ = some (.string ⟨#[112]⟩) ∧ wr.cell? ⟨X, 1, none⟩ = some (.slice (some ⟨W4.heap.size, 0, none⟩) 4 4) ∧ wr.cell? ⟨X, 2, none⟩ = some (.slice (some ⟨W4.heap.size + 1, 0, none⟩) 1 1) ∧ wr.cell? ⟨X, 3, none⟩ = some (.slice A4 12 c4) := ⟨cell_of_row _ _ 0 _ _ _ HS.out.lay.row, cell_of_row _ _ 1 _ _ _ HS.out.lay.row, cell_of_row _ _ 2 _ _ _ HS.out.lay.row, cell_of_row _ _ 3 _ _ _ HS.out.lay.row⟩
          have l2 := HS.out.lay.lt
          have j0 : wr.cell? ⟨P, 0, none⟩ = some (.slice AV' nV' cV') := cell_of_row _ _ 0 _ _ _ HS.out.row
          have j1 : wr.cell? ⟨P, 1, none⟩ = some (.slice AB' nB' cB') := cell_of_row _ _ 1 _ _ _ HS.out.row
          have lP := World.block_lt_of_cell? wr _ j0
          have lb := World.block_lt_of_cell? wr _ c1
          clear hxk wn1 wn2 hk hk40 hlt h40
          cases a <;> cases r <;> cases w0
          · obtain ⟨b7, r7, z7⟩ := one_block wr (.cells #[.int .i64 0, .int .i64 0] 2)
            obtain ⟨hscan, s', n, hs', hok⟩ := SC.out (wr.alloc (.cells #[.int .i64 0, .int .i64 0] 2)) X _ _ _ (HS.out.lay.below b7) false want s _ _ false false _ (k : Int) HS.out.ok WN.out.1 (by have := WN.out; omega) (by omega) (by have := WN.out; omega) (HS.out.own.below b7).rd (rd_cells oneI64_len (xs := [0, 0]) r7 (by show 2 ≤ _; omega))
            rw [hs'] at hscan
            have ecv : cvN (!true && false) false false want = want := rfl
            rw [ecv] at hscan hok
            have B7 := Fact.mk b7
            have OK := Fact.mk hok
            obtain ⟨q, hq⟩ : ∃ q, decide (3 ≤ want) = q := ⟨_, rfl⟩
            rw [hq] at hscan
            have CALL := Fact.mk hscan
            clear hscan hs' hok ecv b7 r7 z7 SC
            go_wp2_with fail
            refine CALL.out.mono ?_
            rintro e W5 ⟨V5, B5', O5, rfl, ho5, hO5, hb5⟩
            obtain ⟨AV5, nV5, cV5, rfl⟩ := ho5.v.slice
            obtain ⟨AB5, nB5, cB5, rfl⟩ := ho5.b.slice
            obtain ⟨g5, o5, c5, rfl, hc0, hc1⟩ := rd_two64 (hO5.rd oneI64_len)
            obtain ⟨b8, r8, z8⟩ := one_block W5 (.cells #[.slice AV5 nV5 cV5, .slice AB5 nB5 cB5] 34)
            have hbb := B7.out.trans ((hb5.trans (b8.mono hb5.size)).mono B7.out.size)
            have STN := Fact.mk (HS.out.next hbb ((ho5.below b8).lower B7.out.size) OK.out WN.out.1 (by have := WN.out; omega))
            have p8 := (hbb.block P lP).trans HS.out.row
            have d0 := cell_of_row _ _ 0 _ _ _ r8
            have d1 := cell_of_row _ _ 1 _ _ _ r8
            have ld : W5.heap.size < (W5.alloc (.cells #[.slice AV5 nV5 cV5, .slice AB5 nB5 cB5] 34)).heap.size := by rw [z8]; omega
            replace hc0 := cell_below b8 _ _ hc0
            replace hc1 := cell_below b8 _ _ hc1
            have u0 := cell_of_row _ _ 0 _ _ _ p8
            have u1 := cell_of_row _ _ 1 _ _ _ p8
            have v0 := frozen_of_row _ _ 0 _ _ p8
            have v1 := frozen_of_row _ _ 1 _ _ p8
            have l8 : P < (W5.alloc (.cells #[.slice AV5 nV5 cV5, .slice AB5 nB5 cB5] 34)).heap.size := Nat.lt_of_lt_of_le lP hbb.size
            clear k0 k1 k2 k3 j0 j1 c1 c2 l2 lb ho5 hO5 hb5 b8 r8 z8 hbb CALL OK B7 lP p8 HS
            go_upto_region 24 with (fail)
            generalize W5.alloc (.cells #[.slice AV5 nV5 cV5, .slice AB5 nB5 cB5] 34) = w8 at *
            have lg := World.block_lt_of_cell? w8 _ hc0
            cases q
            · have e1 : (truthI false == 1) = false := rfl
              go_wp2_with fail
              go_roundw
              case rel => exact ⟨k + 1, want, false, s', _, _, WN.out.2.2.2, WN.out.2.2.1, by go_num, rfl, rfl, STN⟩
              case measure => simp [intOf]; omega
            · have e1 : (truthI true == 1) = true := rfl
              go_wp2_with fail
              go_roundw
              case rel => exact ⟨k + 1, want, false, s', _, _, WN.out.2.2.2, WN.out.2.2.1, by go_num, rfl, rfl, STN⟩
              case measure => simp [intOf]; omega
          · obtain ⟨b7, r7, z7⟩ := one_block wr (.cells #[.int .i64 0, .int .i64 0] 2)
            obtain ⟨hscan, s', n, hs', hok⟩ := SC.out (wr.alloc (.cells #[.int .i64 0, .int .i64 0] 2)) X _ _ _ (HS.out.lay.below b7) true want s _ _ false false _ (k : Int) HS.out.ok WN.out.1 (by have := WN.out; omega) (by omega) (by have := WN.out; omega) (HS.out.own.below b7).rd (rd_cells oneI64_len (xs := [0, 0]) r7 (by show 2 ≤ _; omega))
            rw [hs'] at hscan
            have ecv : cvN (!true && true) false false want = want := rfl
            rw [ecv] at hscan hok
            have B7 := Fact.mk b7
            have OK := Fact.mk hok
            obtain ⟨q, hq⟩ : ∃ q, decide (3 ≤ want) = q := ⟨_, rfl⟩
            rw [hq] at hscan
            have CALL := Fact.mk hscan
            clear hscan hs' hok ecv b7 r7 z7 SC
            go_wp2_with fail
            refine CALL.out.mono ?_
            rintro e W5 ⟨V5, B5', O5, rfl, ho5, hO5, hb5⟩
            obtain ⟨AV5, nV5, cV5, rfl⟩ := ho5.v.slice
            obtain ⟨AB5, nB5, cB5, rfl⟩ := ho5.b.slice
            obtain ⟨g5, o5, c5, rfl, hc0, hc1⟩ := rd_two64 (hO5.rd oneI64_len)
            obtain ⟨b8, r8, z8⟩ := one_block W5 (.cells #[.slice AV5 nV5 cV5, .slice AB5 nB5 cB5] 34)
            have hbb := B7.out.trans ((hb5.trans (b8.mono hb5.size)).mono B7.out.size)
            have STN := Fact.mk (HS.out.next hbb ((ho5.below b8).lower B7.out.size) OK.out WN.out.1 (by have := WN.out; omega))
            have p8 := (hbb.block P lP).trans HS.out.row
            have d0 := cell_of_row _ _ 0 _ _ _ r8
            have d1 := cell_of_row _ _ 1 _ _ _ r8
            have ld : W5.heap.size < (W5.alloc (.cells #[.slice AV5 nV5 cV5, .slice AB5 nB5 cB5] 34)).heap.size := by rw [z8]; omega
            replace hc0 := cell_below b8 _ _ hc0
            replace hc1 := cell_below b8 _ _ hc1
            have u0 := cell_of_row _ _ 0 _ _ _ p8
            have u1 := cell_of_row _ _ 1 _ _ _ p8
            have v0 := frozen_of_row _ _ 0 _ _ p8
            have v1 := frozen_of_row _ _ 1 _ _ p8
            have l8 : P < (W5.alloc (.cells #[.slice AV5 nV5 cV5, .slice AB5 nB5 cB5] 34)).heap.size := Nat.lt_of_lt_of_le lP hbb.size
            clear k0 k1 k2 k3 j0 j1 c1 c2 l2 lb ho5 hO5 hb5 b8 r8 z8 hbb CALL OK B7 lP p8 HS
            go_upto_region 24 with (fail)
            generalize W5.alloc (.cells #[.slice AV5 nV5 cV5, .slice AB5 nB5 cB5] 34) = w8 at *
            have lg := World.block_lt_of_cell? w8 _ hc0
            cases q
            · have e1 : (truthI false == 1) = false := rfl
              go_wp2_with fail
              go_roundw
              case rel => exact ⟨k + 1, want, false, s', _, _, WN.out.2.2.2, WN.out.2.2.1, by go_num, rfl, rfl, STN⟩
              case measure => simp [intOf]; omega
            · have e1 : (truthI true == 1) = true := rfl
              go_wp2_with fail
              go_roundw
              case rel => exact ⟨k + 1, want, false, s', _, _, WN.out.2.2.2, WN.out.2.2.1, by go_num, rfl, rfl, STN⟩
              case measure => simp [intOf]; omega
          · obtain ⟨b7, r7, z7⟩ := one_block wr (.cells #[.int .i64 0, .int .i64 1] 2)
            obtain ⟨hscan, s', n, hs', hok⟩ := SC.out (wr.alloc (.cells #[.int .i64 0, .int .i64 1] 2)) X _ _ _ (HS.out.lay.below b7) false want s _ _ false true _ (k : Int) HS.out.ok WN.out.1 (by have := WN.out; omega) (by omega) (by have := WN.out; omega) (HS.out.own.below b7).rd (rd_cells oneI64_len (xs := [0, 1]) r7 (by show 2 ≤ _; omega))
            rw [hs'] at hscan
            have ecv : cvN (!true && false) false true want = (0 : Int) := rfl
            rw [ecv] at hscan hok
            have B7 := Fact.mk b7
            have OK := Fact.mk hok
            obtain ⟨q, hq⟩ : ∃ q, decide (3 ≤ (0 : Int)) = q := ⟨_, rfl⟩
            rw [hq] at hscan
            have CALL := Fact.mk hscan
            clear hscan hs' hok ecv b7 r7 z7 SC
            go_wp2_with fail
            refine CALL.out.mono ?_
            rintro e W5 ⟨V5, B5', O5, rfl, ho5, hO5, hb5⟩
            obtain ⟨AV5, nV5, cV5, rfl⟩ := ho5.v.slice
            obtain ⟨AB5, nB5, cB5, rfl⟩ := ho5.b.slice
            obtain ⟨g5, o5, c5, rfl, hc0, hc1⟩ := rd_two64 (hO5.rd oneI64_len)
            obtain ⟨b8, r8, z8⟩ := one_block W5 (.cells #[.slice AV5 nV5 cV5, .slice AB5 nB5 cB5] 34)
            have hbb := B7.out.trans ((hb5.trans (b8.mono hb5.size)).mono B7.out.size)
            have STN := Fact.mk (HS.out.next hbb ((ho5.below b8).lower B7.out.size) OK.out (Int.le_refl _) (by have := WN.out; omega))
            have p8 := (hbb.block P lP).trans HS.out.row
            have d0 := cell_of_row _ _ 0 _ _ _ r8
            have d1 := cell_of_row _ _ 1 _ _ _ r8
            have ld : W5.heap.size < (W5.alloc (.cells #[.slice AV5 nV5 cV5, .slice AB5 nB5 cB5] 34)).heap.size := by rw [z8]; omega
            replace hc0 := cell_below b8 _ _ hc0
            replace hc1 := cell_below b8 _ _ hc1
            have u0 := cell_of_row _ _ 0 _ _ _ p8
            have u1 := cell_of_row _ _ 1 _ _ _ p8
            have v0 := frozen_of_row _ _ 0 _ _ p8
            have v1 := frozen_of_row _ _ 1 _ _ p8
            have l8 : P < (W5.alloc (.cells #[.slice AV5 nV5 cV5, .slice AB5 nB5 cB5] 34)).heap.size := Nat.lt_of_lt_of_le lP hbb.size
            clear k0 k1 k2 k3 j0 j1 c1 c2 l2 lb ho5 hO5 hb5 b8 r8 z8 hbb CALL OK B7 lP p8 HS
            go_upto_region 24 with (fail)
            generalize W5.alloc (.cells #[.slice AV5 nV5 cV5, .slice AB5 nB5 cB5] 34) = w8 at *
            have lg := World.block_lt_of_cell? w8 _ hc0
            obtain rfl : false = q := hq
            have e1 : (truthI false == 1) = false := rfl
            go_wp2_with fail
            go_roundw
            case rel => exact ⟨k + 1, (0 : Int), false, s', _, _, WN.out.2.2.2, WN.out.2.2.1, by go_num, rfl, rfl, STN⟩
            case measure => simp [intOf]; omega
          · obtain ⟨b7, r7, z7⟩ := one_block wr (.cells #[.int .i64 0, .int .i64 1] 2)
            obtain ⟨hscan, s', n, hs', hok⟩ := SC.out (wr.alloc (.cells #[.int .i64 0, .int .i64 1] 2)) X _ _ _ (HS.out.lay.below b7) true want s _ _ false true _ (k : Int) HS.out.ok WN.out.1 (by have := WN.out; omega) (by omega) (by have := WN.out; omega) (HS.out.own.below b7).rd (rd_cells oneI64_len (xs := [0, 1]) r7 (by show 2 ≤ _; omega))
            rw [hs'] at hscan
            have ecv : cvN (!true && true) false true want = (0 : Int) := rfl
            rw [ecv] at hscan hok
            have B7 := Fact.mk b7
            have OK := Fact.mk hok
            obtain ⟨q, hq⟩ : ∃ q, decide (3 ≤ (0 : Int)) = q := ⟨_, rfl⟩
            rw [hq] at hscan
            have CALL := Fact.mk hscan
            clear hscan hs' hok ecv b7 r7 z7 SC
            go_wp2_with fail
            refine CALL.out.mono ?_
            rintro e W5 ⟨V5, B5', O5, rfl, ho5, hO5, hb5⟩
            obtain ⟨AV5, nV5, cV5, rfl⟩ := ho5.v.slice
            obtain ⟨AB5, nB5, cB5, rfl⟩ := ho5.b.slice
            obtain ⟨g5, o5, c5, rfl, hc0, hc1⟩ := rd_two64 (hO5.rd oneI64_len)
            obtain ⟨b8, r8, z8⟩ := one_block W5 (.cells #[.slice AV5 nV5 cV5, .slice AB5 nB5 cB5] 34)
            have hbb := B7.out.trans ((hb5.trans (b8.mono hb5.size)).mono B7.out.size)
            have STN := Fact.mk (HS.out.next hbb ((ho5.below b8).lower B7.out.size) OK.out (Int.le_refl _) (by have := WN.out; omega))
            have p8 := (hbb.block P lP).trans HS.out.row
            have d0 := cell_of_row _ _ 0 _ _ _ r8
            have d1 := cell_of_row _ _ 1 _ _ _ r8
            have ld : W5.heap.size < (W5.alloc (.cells #[.slice AV5 nV5 cV5, .slice AB5 nB5 cB5] 34)).heap.size := by rw [z8]; omega
            replace hc0 := cell_below b8 _ _ hc0
            replace hc1 := cell_below b8 _ _ hc1
            have u0 := cell_of_row _ _ 0 _ _ _ p8
            have u1 := cell_of_row _ _ 1 _ _ _ p8
            have v0 := frozen_of_row _ _ 0 _ _ p8
            have v1 := frozen_of_row _ _ 1 _ _ p8
            have l8 : P < (W5.alloc (.cells #[.slice AV5 nV5 cV5, .slice AB5 nB5 cB5] 34)).heap.size := Nat.lt_of_lt_of_le lP hbb.size
            clear k0 k1 k2 k3 j0 j1 c1 c2 l2 lb ho5 hO5 hb5 b8 r8 z8 hbb CALL OK B7 lP p8 HS
            go_upto_region 24 with (fail)
            generalize W5.alloc (.cells #[.slice AV5 nV5 cV5, .slice AB5 nB5 cB5] 34) = w8 at *
            have lg := World.block_lt_of_cell? w8 _ hc0
            obtain rfl : false = q := hq
            have e1 : (truthI false == 1) = false := rfl
            go_wp2_with fail
            go_roundw
            case rel => exact ⟨k + 1, (0 : Int), false, s', _, _, WN.out.2.2.2, WN.out.2.2.1, by go_num, rfl, rfl, STN⟩
            case measure => simp [intOf]; omega
          · obtain ⟨b7, r7, z7⟩ := one_block wr (.cells #[.int .i64 1, .int .i64 0] 2)
            obtain ⟨hscan, s', n, hs', hok⟩ := SC.out (wr.alloc (.cells #[.int .i64 1, .int .i64 0] 2)) X _ _ _ (HS.out.lay.below b7) false want s _ _ true false _ (k : Int) HS.out.ok WN.out.1 (by have := WN.out; omega) (by omega) (by have := WN.out; omega) (HS.out.own.below b7).rd (rd_cells oneI64_len (xs := [1, 0]) r7 (by show 2 ≤ _; omega))
            rw [hs'] at hscan
            have ecv : cvN (!true && false) true false want = (want + 1) := rfl
            rw [ecv] at hscan hok
            have B7 := Fact.mk b7
            have OK := Fact.mk hok
            obtain ⟨q, hq⟩ : ∃ q, decide (3 ≤ (want + 1)) = q := ⟨_, rfl⟩
            rw [hq] at hscan
            have CALL := Fact.mk hscan
            clear hscan hs' hok ecv b7 r7 z7 SC
            go_wp2_with fail
            refine CALL.out.mono ?_
            rintro e W5 ⟨V5, B5', O5, rfl, ho5, hO5, hb5⟩
            obtain ⟨AV5, nV5, cV5, rfl⟩ := ho5.v.slice
            obtain ⟨AB5, nB5, cB5, rfl⟩ := ho5.b.slice
            obtain ⟨g5, o5, c5, rfl, hc0, hc1⟩ := rd_two64 (hO5.rd oneI64_len)
            obtain ⟨b8, r8, z8⟩ := one_block W5 (.cells #[.slice AV5 nV5 cV5, .slice AB5 nB5 cB5] 34)
            have hbb := B7.out.trans ((hb5.trans (b8.mono hb5.size)).mono B7.out.size)
            have STN := Fact.mk (HS.out.next hbb ((ho5.below b8).lower B7.out.size) OK.out (by have := WN.out; omega) (by have := WN.out; omega))
            have p8 := (hbb.block P lP).trans HS.out.row
            have d0 := cell_of_row _ _ 0 _ _ _ r8
            have d1 := cell_of_row _ _ 1 _ _ _ r8
            have ld : W5.heap.size < (W5.alloc (.cells #[.slice AV5 nV5 cV5, .slice AB5 nB5 cB5] 34)).heap.size := by rw [z8]; omega
            replace hc0 := cell_below b8 _ _ hc0
            replace hc1 := cell_below b8 _ _ hc1
            have u0 := cell_of_row _ _ 0 _ _ _ p8
            have u1 := cell_of_row _ _ 1 _ _ _ p8
            have v0 := frozen_of_row _ _ 0 _ _ p8
            have v1 := frozen_of_row _ _ 1 _ _ p8
            have l8 : P < (W5.alloc (.cells #[.slice AV5 nV5 cV5, .slice AB5 nB5 cB5] 34)).heap.size := Nat.lt_of_lt_of_le lP hbb.size
            clear k0 k1 k2 k3 j0 j1 c1 c2 l2 lb ho5 hO5 hb5 b8 r8 z8 hbb CALL OK B7 lP p8 HS
            go_upto_region 24 with (fail)
            generalize W5.alloc (.cells #[.slice AV5 nV5 cV5, .slice AB5 nB5 cB5] 34) = w8 at *
            have lg := World.block_lt_of_cell? w8 _ hc0
            cases q
            · have e1 : (truthI false == 1) = false := rfl
              go_wp2_with fail
              go_roundw
              case rel => exact ⟨k + 1, (want + 1), true, s', _, _, WN.out.2.2.2, WN.out.2.2.1, by go_num, rfl, rfl, STN⟩
              case measure => simp [intOf]; omega
            · have e1 : (truthI true == 1) = true := rfl
              go_wp2_with fail
              go_roundw
              case rel => exact ⟨k + 1, (want + 1), true, s', _, _, WN.out.2.2.2, WN.out.2.2.1, by go_num, rfl, rfl, STN⟩
              case measure => simp [intOf]; omega
          · obtain ⟨b7, r7, z7⟩ := one_block wr (.cells #[.int .i64 1, .int .i64 0] 2)
            obtain ⟨hscan, s', n, hs', hok⟩ := SC.out (wr.alloc (.cells #[.int .i64 1, .int .i64 0] 2)) X _ _ _ (HS.out.lay.below b7) true want s _ _ true false _ (k : Int) HS.out.ok WN.out.1 (by have := WN.out; omega) (by omega) (by have := WN.out; omega) (HS.out.own.below b7).rd (rd_cells oneI64_len (xs := [1, 0]) r7 (by show 2 ≤ _; omega))
            rw [hs'] at hscan
            have ecv : cvN (!true && true) true false want = (want + 1) := rfl
            rw [ecv] at hscan hok
            have B7 := Fact.mk b7
            have OK := Fact.mk hok
            obtain ⟨q, hq⟩ : ∃ q, decide (3 ≤ (want + 1)) = q := ⟨_, rfl⟩
            rw [hq] at hscan
            have CALL := Fact.mk hscan
            clear hscan hs' hok ecv b7 r7 z7 SC
            go_wp2_with fail
            refine CALL.out.mono ?_
            rintro e W5 ⟨V5, B5', O5, rfl, ho5, hO5, hb5⟩
            obtain ⟨AV5, nV5, cV5, rfl⟩ := ho5.v.slice
            obtain ⟨AB5, nB5, cB5, rfl⟩ := ho5.b.slice
            obtain ⟨g5, o5, c5, rfl, hc0, hc1⟩ := rd_two64 (hO5.rd oneI64_len)
            obtain ⟨b8, r8, z8⟩ := one_block W5 (.cells #[.slice AV5 nV5 cV5, .slice AB5 nB5 cB5] 34)
            have hbb := B7.out.trans ((hb5.trans (b8.mono hb5.size)).mono B7.out.size)
            have STN := Fact.mk (HS.out.next hbb ((ho5.below b8).lower B7.out.size) OK.out (by have := WN.out; omega) (by have := WN.out; omega))
            have p8 := (hbb.block P lP).trans HS.out.row
            have d0 := cell_of_row _ _ 0 _ _ _ r8
            have d1 := cell_of_row _ _ 1 _ _ _ r8
            have ld : W5.heap.size < (W5.alloc (.cells #[.slice AV5 nV5 cV5, .slice AB5 nB5 cB5] 34)).heap.size := by rw [z8]; omega
            replace hc0 := cell_below b8 _ _ hc0
            replace hc1 := cell_below b8 _ _ hc1
            have u0 := cell_of_row _ _ 0 _ _ _ p8
            have u1 := cell_of_row _ _ 1 _ _ _ p8
            have v0 := frozen_of_row _ _ 0 _ _ p8
            have v1 := frozen_of_row _ _ 1 _ _ p8
            have l8 : P < (W5.alloc (.cells #[.slice AV5 nV5 cV5, .slice AB5 nB5 cB5] 34)).heap.size := Nat.lt_of_lt_of_le lP hbb.size
            clear k0 k1 k2 k3 j0 j1 c1 c2 l2 lb ho5 hO5 hb5 b8 r8 z8 hbb CALL OK B7 lP p8 HS
            go_upto_region 24 with (fail)
            generalize W5.alloc (.cells #[.slice AV5 nV5 cV5, .slice AB5 nB5 cB5] 34) = w8 at *
            have lg := World.block_lt_of_cell? w8 _ hc0
            cases q
            · have e1 : (truthI false == 1) = false := rfl
              go_wp2_with fail
              go_roundw
              case rel => exact ⟨k + 1, (want + 1), true, s', _, _, WN.out.2.2.2, WN.out.2.2.1, by go_num, rfl, rfl, STN⟩
              case measure => simp [intOf]; omega
            · have e1 : (truthI true == 1) = true := rfl
              go_wp2_with fail
              go_roundw
              case rel => exact ⟨k + 1, (want + 1), true, s', _, _, WN.out.2.2.2, WN.out.2.2.1, by go_num, rfl, rfl, STN⟩
              case measure => simp [intOf]; omega
          · obtain ⟨b7, r7, z7⟩ := one_block wr (.cells #[.int .i64 1, .int .i64 1] 2)
            obtain ⟨hscan, s', n, hs', hok⟩ := SC.out (wr.alloc (.cells #[.int .i64 1, .int .i64 1] 2)) X _ _ _ (HS.out.lay.below b7) false want s _ _ true true _ (k : Int) HS.out.ok WN.out.1 (by have := WN.out; omega) (by omega) (by have := WN.out; omega) (HS.out.own.below b7).rd (rd_cells oneI64_len (xs := [1, 1]) r7 (by show 2 ≤ _; omega))
            rw [hs'] at hscan
            have ecv : cvN (!true && false) true true want = (0 : Int) := rfl
            rw [ecv] at hscan hok
            have B7 := Fact.mk b7
            have OK := Fact.mk hok
            obtain ⟨q, hq⟩ : ∃ q, decide (3 ≤ (0 : Int)) = q := ⟨_, rfl⟩
            rw [hq] at hscan
            have CALL := Fact.mk hscan
            clear hscan hs' hok ecv b7 r7 z7 SC
            go_wp2_with fail
            refine CALL.out.mono ?_
            rintro e W5 ⟨V5, B5', O5, rfl, ho5, hO5, hb5⟩
            obtain ⟨AV5, nV5, cV5, rfl⟩ := ho5.v.slice
            obtain ⟨AB5, nB5, cB5, rfl⟩ := ho5.b.slice
            obtain ⟨g5, o5, c5, rfl, hc0, hc1⟩ := rd_two64 (hO5.rd oneI64_len)
            obtain ⟨b8, r8, z8⟩ := one_block W5 (.cells #[.slice AV5 nV5 cV5, .slice AB5 nB5 cB5] 34)
            have hbb := B7.out.trans ((hb5.trans (b8.mono hb5.size)).mono B7.out.size)
            have STN := Fact.mk (HS.out.next hbb ((ho5.below b8).lower B7.out.size) OK.out (Int.le_refl _) (by have := WN.out; omega))
            have p8 := (hbb.block P lP).trans HS.out.row
            have d0 := cell_of_row _ _ 0 _ _ _ r8
            have d1 := cell_of_row _ _ 1 _ _ _ r8
            have ld : W5.heap.size < (W5.alloc (.cells #[.slice AV5 nV5 cV5, .slice AB5 nB5 cB5] 34)).heap.size := by rw [z8]; omega
            replace hc0 := cell_below b8 _ _ hc0
            replace hc1 := cell_below b8 _ _ hc1
            have u0 := cell_of_row _ _ 0 _ _ _ p8
            have u1 := cell_of_row _ _ 1 _ _ _ p8
            have v0 := frozen_of_row _ _ 0 _ _ p8
            have v1 := frozen_of_row _ _ 1 _ _ p8
            have l8 : P < (W5.alloc (.cells #[.slice AV5 nV5 cV5, .slice AB5 nB5 cB5] 34)).heap.size := Nat.lt_of_lt_of_le lP hbb.size
            clear k0 k1 k2 k3 j0 j1 c1 c2 l2 lb ho5 hO5 hb5 b8 r8 z8 hbb CALL OK B7 lP p8 HS
            go_upto_region 24 with (fail)
            generalize W5.alloc (.cells #[.slice AV5 nV5 cV5, .slice AB5 nB5 cB5] 34) = w8 at *
            have lg := World.block_lt_of_cell? w8 _ hc0
            obtain rfl : false = q := hq
            have e1 : (truthI false == 1) = false := rfl
            go_wp2_with fail
            go_roundw
            case rel => exact ⟨k + 1, (0 : Int), true, s', _, _, WN.out.2.2.2, WN.out.2.2.1, by go_num, rfl, rfl, STN⟩
            case measure => simp [intOf]; omega
          · obtain ⟨b7, r7, z7⟩ := one_block wr (.cells #[.int .i64 1, .int .i64 1] 2)
            obtain ⟨hscan, s', n, hs', hok⟩ := SC.out (wr.alloc (.cells #[.int .i64 1, .int .i64 1] 2)) X _ _ _ (HS.out.lay.below b7) true want s _ _ true true _ (k : Int) HS.out.ok WN.out.1 (by have := WN.out; omega) (by omega) (by have := WN.out; omega) (HS.out.own.below b7).rd (rd_cells oneI64_len (xs := [1, 1]) r7 (by show 2 ≤ _; omega))
            rw [hs'] at hscan
            have ecv : cvN (!true && true) true true want = (0 : Int) := rfl
            rw [ecv] at hscan hok
            have B7 := Fact.mk b7
            have OK := Fact.mk hok
            obtain ⟨q, hq⟩ : ∃ q, decide (3 ≤ (0 : Int)) = q := ⟨_, rfl⟩
            rw [hq] at hscan
            have CALL := Fact.mk hscan
            clear hscan hs' hok ecv b7 r7 z7 SC
            go_wp2_with fail
            refine CALL.out.mono ?_
            rintro e W5 ⟨V5, B5', O5, rfl, ho5, hO5, hb5⟩
            obtain ⟨AV5, nV5, cV5, rfl⟩ := ho5.v.slice
            obtain ⟨AB5, nB5, cB5, rfl⟩ := ho5.b.slice
            obtain ⟨g5, o5, c5, rfl, hc0, hc1⟩ := rd_two64 (hO5.rd oneI64_len)
            obtain ⟨b8, r8, z8⟩ := one_block W5 (.cells #[.slice AV5 nV5 cV5, .slice AB5 nB5 cB5] 34)
            have hbb := B7.out.trans ((hb5.trans (b8.mono hb5.size)).mono B7.out.size)
            have STN := Fact.mk (HS.out.next hbb ((ho5.below b8).lower B7.out.size) OK.out (Int.le_refl _) (by have := WN.out; omega))
            have p8 := (hbb.block P lP).trans HS.out.row
            have d0 := cell_of_row _ _ 0 _ _ _ r8
            have d1 := cell_of_row _ _ 1 _ _ _ r8
            have ld : W5.heap.size < (W5.alloc (.cells #[.slice AV5 nV5 cV5, .slice AB5 nB5 cB5] 34)).heap.size := by rw [z8]; omega
            replace hc0 := cell_below b8 _ _ hc0
            replace hc1 := cell_below b8 _ _ hc1
            have u0 := cell_of_row _ _ 0 _ _ _ p8
            have u1 := cell_of_row _ _ 1 _ _ _ p8
            have v0 := frozen_of_row _ _ 0 _ _ p8
            have v1 := frozen_of_row _ _ 1 _ _ p8
            have l8 : P < (W5.alloc (.cells #[.slice AV5 nV5 cV5, .slice AB5 nB5 cB5] 34)).heap.size := Nat.lt_of_lt_of_le lP hbb.size
            clear k0 k1 k2 k3 j0 j1 c1 c2 l2 lb ho5 hO5 hb5 b8 r8 z8 hbb CALL OK B7 lP p8 HS
            go_upto_region 24 with (fail)
            generalize W5.alloc (.cells #[.slice AV5 nV5 cV5, .slice AB5 nB5 cB5] 34) = w8 at *
            have lg := World.block_lt_of_cell? w8 _ hc0
            obtain rfl : false = q := hq
            have e1 : (truthI false == 1) = false := rfl
            go_wp2_with fail
            go_roundw
            case rel => exact ⟨k + 1, (0 : Int), true, s', _, _, WN.out.2.2.2, WN.out.2.2.1, by go_num, rfl, rfl, STN⟩
            case measure => simp [intOf]; omega
        · obtain rfl : k = 40 := by omega
          have i1 : ((40 : Nat) : Int) < (xs.length : Int) := by omega
          have HB := Fact.mk HS.out.bel
          clear HS SC
          go_wp2_with fail
          refine (awkS_any _).mono ?_
          rintro e W8 ⟨rfl, hb8⟩
          have BL9 := Fact.mk (HB.out.trans (hb8.mono HB.out.size))
          clear hb8 HB
          go_wp2
          go_ret
          exact ⟨rfl, BL9.out⟩
      · obtain rfl : k = xs.length := by omega
        have HB := Fact.mk HS.out.bel
        clear HS SC
        go_wp2_with fail
        refine (awkS_any _).mono ?_
        rintro e W8 ⟨rfl, hb8⟩
        have BL9 := Fact.mk (HB.out.trans (hb8.mono HB.out.size))
        clear hb8 HB
        go_wp2
        go_ret
        exact ⟨rfl, BL9.out⟩
end Go.Proofs.Ytiogpainajokkaa

