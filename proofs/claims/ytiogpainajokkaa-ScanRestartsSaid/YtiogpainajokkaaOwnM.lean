/- Contracts of scan.own and scan.of. -/
import Derived.Test.YtiogpainajokkaaFtsM
import Derived.Test.YtiogpainajokkaaRns0
import Derived.Test.YtiogpainajokkaaJnsM
import Derived.Deep.QuietTactic
import Derived.BigQuiet
namespace Go.Proofs.Ytiogpainajokkaa
open Go.RowKit
/-- A state in rows of the call's own. -/
structure PlOwn (base : Nat) (w : World) (s : GPlant) (V B : Value) : Prop where
  v : Own 2 1 oneI64 w base V s.vars
  b : Own 67 10 encBlk w base B s.blocks
theorem PlOwn.below {base : Nat} {w w' : World} {s : GPlant} {V B : Value} (h : PlOwn base w s V B) (hb : Below w.heap.size w w') : PlOwn base w' s V B := ⟨h.v.below hb, h.b.below hb⟩
theorem PlOwn.rd {base : Nat} {w : World} {s : GPlant} {V B : Value} (h : PlOwn base w s V B) : PlRd w s V B := ⟨h.v.rd oneI64_len, h.b.rd encBlk_len⟩
theorem PlOwn.lower {base base' : Nat} {w : World} {s : GPlant} {V B : Value} (h : PlOwn base w s V B) (hb : base' ≤ base) : PlOwn base' w s V B := ⟨h.v.lower hb, h.b.lower hb⟩
theorem set2_0 {w : World} {g : Nat} {v0 v1 u : Value} {T : TypeId} (h : w.heap[g]? = some (.cells #[v0, v1] T (0, 0))) : (w.setCell ⟨g, 0, none⟩ u).heap[g]? = some (.cells #[u, v1] T (0, 0)) := heap_setCell_same w g 0 _ T u h
theorem set2_1 {w : World} {g : Nat} {v0 v1 u : Value} {T : TypeId} (h : w.heap[g]? = some (.cells #[v0, v1] T (0, 0))) : (w.setCell ⟨g, 1, none⟩ u).heap[g]? = some (.cells #[v0, u] T (0, 0)) := heap_setCell_same w g 1 _ T u h
theorem res_cellP {P : Program} {fn : Func} {p : Tmp} {ty : TypeId} (h : fn.results = #[.cell p ty]) (tmps : Array Value) (w : World) (g : Nat) {t : TypeId} {cs : Array Value} {fr : Nat × Nat} {d : TypeDesc}
    (hp : tmps.getD p undef = .pointer (some ⟨g, 0, none⟩)) (hg : w.heap[g]? = some (.cells cs t fr))
    (hu : P.underlying ty = some d) (hd : (match d with | .struct _ | .array _ _ => true | _ => false) = true) (hi : (P.info? ty).map (·.size) = some cs.size) :
    (results fn tmps).run P w = .ok (.agg cs) w := by
  have hp' : tmps[p]?.getD undef = .pointer (some ⟨g, 0, none⟩) := by rw [← Array.getD_eq_getD_getElem?]; exact hp
  simp [results, h, hp', asAddr, run_loadVar_row w g t ty cs fr d hg hu hd hi]
theorem Try.sizePlant : (Try.prog.info? 34).map (·.size) = some 2 := by kernel_rfl
def OwnPost (w : World) (s : GPlant) (e : Ending) (w' : World) : Prop := ∃ V B, e = .returned (.agg #[V, B]) ∧ PlOwn w.heap.size w' s V B ∧ Below w.heap.size w w'
set_option maxHeartbeats 4000000 in
set_option maxRecDepth 100000 in
theorem own_any (s : GPlant) (sv sb : Value) (w : World) (hs : PlRd w s sv sb) (h1 : s.vars.length ≤ 100000) (h2 : s.blocks.length ≤ 100000) : Calls Try.prog 45 #[.agg #[sv, sb]] w (OwnPost w s) := by
  obtain ⟨A4, c4, rfl⟩ : ∃ A c', sv = .slice A s.vars.length c' := by obtain ⟨_, A, c', h, _⟩ := hs.v; exact ⟨A, c', h⟩
  obtain ⟨A5, c5, rfl⟩ : ∃ A c', sb = .slice A s.blocks.length c' := by obtain ⟨_, A, c', h, _⟩ := hs.b; exact ⟨A, c', h⟩
  have TB := two_blocks w (.cells #[.slice A4 s.vars.length c4, .slice A5 s.blocks.length c5] 34) (.cells #[.slice none 0 0, .slice none 0 0] 34)
  have CV := Fact.mk (fun W (hW : Below w.heap.size w W) => clone64_any W _ s.vars h1 (hs.v.below hW))
  have CB := Fact.mk (fun W (hW : Below w.heap.size w W) => cloneB_any W _ s.blocks h2 (hs.b.below hW))
  have B2 := Fact.mk TB.1
  have R2 := Fact.mk TB.2.1
  have R3 := Fact.mk TB.2.2.1
  have Z2 := Fact.mk TB.2.2.2
  clear TB hs h1 h2
  go_enter Try.func45, Try.ntmps45
  go_upto_region 1 with (fail)
  generalize (w.alloc (.cells #[.slice A4 s.vars.length c4, .slice A5 s.blocks.length c5] 34)).alloc (.cells #[.slice none 0 0, .slice none 0 0] 34) = w2 at *
  have k0 : w2.cell? ⟨w.heap.size, 0, none⟩ = some (.slice A4 s.vars.length c4) := cell_of_row _ _ 0 _ _ _ R2.out
  have k1 : w2.cell? ⟨w.heap.size, 1, none⟩ = some (.slice A5 s.blocks.length c5) := cell_of_row _ _ 1 _ _ _ R2.out
  have l1 : w.heap.size + 1 < w2.heap.size := by rw [Z2.out]; omega
  go_cut [] (fun wx => ∃ V B, Fact (wx.heap[w.heap.size + 1]? = some (.cells #[V, B] 34 (0, 0))) ∧ Fact (PlOwn w.heap.size wx s V B) ∧ Fact (Below w.heap.size w wx))
  case first =>
    go_region_with (first | (go_at_call 54; refine (CV.out _ (B2.out.drew)).mono ?_; rintro e W3 ⟨V, rfl, ho3, hb3⟩; obtain ⟨AV, nV, cV, rfl⟩ := ho3.slice; have B3 := Fact.mk hb3; have O3 := Fact.mk ho3; have k3 := cell_below hb3 _ _ k1; have l3 : w.heap.size + 1 < W3.heap.size := Nat.lt_of_lt_of_le l1 hb3.size; clear hb3 ho3) | (go_at_call 71; refine (CB.out _ (by first | exact B2.out.drew.trans (B3.out.mono B2.out.drew.size))).mono ?_; rintro e W4 ⟨B, rfl, ho4, hb4⟩; obtain ⟨AB, nB, cB, rfl⟩ := ho4.slice; have B4 := Fact.mk hb4; have O4 := Fact.mk ho4; have l4 : w.heap.size + 1 < W4.heap.size := Nat.lt_of_lt_of_le l3 hb4.size; have R4 := Fact.mk ((hb4.block _ l3).trans ((B3.out.block _ l1).trans R3.out)); have z0 := cell_of_row _ _ 0 _ _ _ R4.out; have z1 := cell_of_row _ _ 1 _ _ _ R4.out; have f0 := frozen_of_row _ _ 0 _ _ R4.out; have f1 := frozen_of_row _ _ 1 _ _ R4.out; clear hb4 ho4))
    all_goals
      have r0 := set2_0 (u := .slice AV nV cV) R4.out
      have r1 := set2_1 (u := .slice AB nB cB) r0
      have B5 := ((B2.out.drew.trans (B3.out.mono B2.out.drew.size)).trans (B4.out.mono (B2.out.drew.trans (B3.out.mono B2.out.drew.size)).size))
      have o3 := ((O3.out.below B4.out).set R4.out (by decide) 0 (.slice AV nV cV)).set r0 (by decide) 1 (.slice AB nB cB)
      have o4 := (O4.out.set R4.out (by decide) 0 (.slice AV nV cV)).set r0 (by decide) 1 (.slice AB nB cB)
      have FIN := Fact.mk (And.intro r1 (And.intro (PlOwn.mk (s := s) (o3.lower B2.out.drew.size) (o4.lower (Nat.le_trans B2.out.drew.size B3.out.size))) ((B5.setCell (p := ⟨w.heap.size + 1, 0, none⟩) (Nat.le_succ _) (.slice AV nV cV)).setCell (p := ⟨w.heap.size + 1, 1, none⟩) (Nat.le_succ _) (.slice AB nB cB))))
      clear r0 r1 B5 o3 o4 z0 z1 f0 f1
      go_wp2_with fail
      go_meet
      exact ⟨_, _, ⟨FIN.out.1⟩, ⟨FIN.out.2.1⟩, ⟨FIN.out.2.2⟩⟩
  case rest =>
  obtain ⟨V, B, hr, ho, hb⟩ := hcut
  go_wp2
  exact bodyPost_ret (res_cellP Try.results45 _ _ (w.heap.size + 1) rfl hr.out Try.underlying34 rfl Try.sizePlant) rfl ⟨V, B, rfl, ho.out, hb.out⟩
theorem ofB_snoc (k : Int) : ∀ (vs : List GVar) (xs : List Int) (v : GVar) (x : Int), vs.length = xs.length → ofB k (vs ++ [v]) (xs ++ [x]) = ofB k vs xs ++ (if v.cls = k then [x] else [])
  | [], [], v, x, _ => by simp only [List.nil_append, ofB]
  | [], _ :: _, _, _, h => by cases h
  | _ :: _, [], _, _, h => by cases h
  | u :: us, y :: ys, v, x, h => by
    simp only [List.cons_append, ofB, ofB_snoc k us ys v x (by simpa using h)]
    split <;> rfl
theorem ofB_len (k : Int) : ∀ (vs : List GVar) (xs : List Int), (ofB k vs xs).length ≤ vs.length
  | [], _ => Nat.zero_le _
  | _ :: _, [] => Nat.zero_le _
  | u :: us, y :: ys => by
    have := ofB_len k us ys
    unfold ofB
    split <;> simp <;> omega
theorem ofB_take {k : Int} {vs : List GVar} {xs : List Int} (hl : vs.length = xs.length) {j : Nat} (h : j < vs.length) : ofB k (vs.take (j + 1)) (xs.take (j + 1)) = ofB k (vs.take j) (xs.take j) ++ (if (vs[j]).cls = k then [xs[j]'(hl ▸ h)] else []) := by
  rw [List.take_succ_eq_append_getElem h, List.take_succ_eq_append_getElem (hl ▸ h), ofB_snoc k _ _ _ _ (by simp; omega)]
set_option maxHeartbeats 4000000 in
set_option maxRecDepth 100000 in
theorem of_any (c : GCode) (s : GPlant) (vs bs is sv sb : Value) (kk : Int) (w : World) (h : CodeRd w c vs bs is) (hs : PlRd w s sv sb) (hl : c.vars.length = s.vars.length) (h1 : c.vars.length ≤ 100000) :
    Calls Try.prog 49 #[.agg #[.string c.name, vs, bs, is], .agg #[sv, sb], .int .u8 kk] w fun e w' => ∃ O, e = .returned O ∧ Own 2 1 oneI64 w' w.heap.size O (ofB kk c.vars s.vars) ∧ Below w.heap.size w w' := by
  obtain ⟨i0, hi, hz0, hz1, hz2⟩ := i64_info
  obtain ⟨A1, c1, rfl⟩ : ∃ A c', vs = .slice A c.vars.length c' := by obtain ⟨_, A, c', h, _⟩ := h.vars; exact ⟨A, c', h⟩
  obtain ⟨A2, c2, rfl⟩ : ∃ A c', bs = .slice A c.blocks.length c' := by obtain ⟨_, A, c', h, _⟩ := h.blocks; exact ⟨A, c', h⟩
  obtain ⟨A3, c3, rfl⟩ : ∃ A c', is = .slice A c.ins.length c' := by obtain ⟨_, A, c', h, _⟩ := h.ins; exact ⟨A, c', h⟩
  obtain ⟨A4, c4, rfl⟩ : ∃ A c', sv = .slice A s.vars.length c' := by obtain ⟨_, A, c', h, _⟩ := hs.v; exact ⟨A, c', h⟩
  obtain ⟨A5, c5, rfl⟩ : ∃ A c', sb = .slice A s.blocks.length c' := by obtain ⟨_, A, c', h, _⟩ := hs.b; exact ⟨A, c', h⟩
  have TB := two_blocks w (.cells #[.string c.name, .slice A1 c.vars.length c1, .slice A2 c.blocks.length c2, .slice A3 c.ins.length c3] 26) (.cells #[.slice A4 s.vars.length c4, .slice A5 s.blocks.length c5] 34)
  have B2 := Fact.mk TB.1
  have R2 := Fact.mk TB.2.1
  have R3 := Fact.mk TB.2.2.1
  have Z2 := Fact.mk TB.2.2.2
  have RV := Fact.mk h.vars
  have RS := Fact.mk hs.v
  have HL := Fact.mk (And.intro hl h1)
  clear TB h hs hl h1
  go_enter Try.func49, Try.ntmps49
  go_upto_region 2 with (fail)
  generalize (w.alloc (.cells #[.string c.name, .slice A1 c.vars.length c1, .slice A2 c.blocks.length c2, .slice A3 c.ins.length c3] 26)).alloc (.cells #[.slice A4 s.vars.length c4, .slice A5 s.blocks.length c5] 34) = w2 at *
  have k1 : w2.cell? ⟨w.heap.size, 1, none⟩ = some (.slice A1 c.vars.length c1) := cell_of_row _ _ 1 _ _ _ R2.out
  have l1 : w.heap.size + 1 < w2.heap.size := by rw [Z2.out]; omega
  have K4 : Fact (w2.cell? ⟨w.heap.size + 1, 0, none⟩ = some (.slice A4 s.vars.length c4)) := ⟨cell_of_row _ _ 0 _ _ _ R3.out⟩
  go_wp2_with fail
  go_loopw [7, 13] (fun o i wr => ∃ k : Nat, k ≤ c.vars.length ∧ i = .int .i64 k ∧ Fact (Own 2 1 oneI64 wr w2.heap.size o (ofB kk (c.vars.take k) (s.vars.take k))) ∧ Fact (Below w2.heap.size w2 wr)) (fun _ i _ => c.vars.length - (intOf i).toNat)
  case atStart => exact ⟨0, Nat.zero_le _, rfl, ⟨Own.nil _ _ _ _ _⟩, ⟨Below.refl _ _⟩⟩
  case round =>
    obtain ⟨k, hk, rfl, HO, HB⟩ := hrel
    by_cases hlt : k < c.vars.length
    · obtain ⟨_, A, c', e, _, _, q1⟩ := RV.out
      cases e
      obtain ⟨b1, o1, rfl, r1⟩ := q1 (by omega)
      obtain ⟨_, A', c'', e, _, _, q2⟩ := RS.out
      cases e
      have hlt2 : k < s.vars.length := by have := HL.out.1; omega
      obtain ⟨b2, o2, rfl, r2⟩ := q2 (by omega)
      have HB' := Fact.mk (B2.out.trans (HB.out.mono B2.out.size))
      have d0 : wr.cell? ⟨b1, o1 + k * 4, none⟩ = some (.string c.vars[k].name) := cell_below HB'.out _ _ (r1 k hlt 0 _ rfl)
      have d1 : wr.cell? ⟨b1, o1 + k * 4 + 1, none⟩ = some (.int .u8 c.vars[k].cls) := cell_below HB'.out _ _ (r1 k hlt 1 _ rfl)
      have d2 : wr.cell? ⟨b1, o1 + k * 4 + 2, none⟩ = some (.int .u8 c.vars[k].ty) := cell_below HB'.out _ _ (r1 k hlt 2 _ rfl)
      have d3 : wr.cell? ⟨b1, o1 + k * 4 + 3, none⟩ = some (.int .i64 c.vars[k].first) := cell_below HB'.out _ _ (r1 k hlt 3 _ rfl)
      have p1 : wr.cell? ⟨b2, o2 + k, none⟩ = some (.int .i64 s.vars[k]) := cell_below HB'.out _ _ (by
        have := r2 k hlt2 0 _ rfl
        rwa [show o2 + k * 1 + 0 = o2 + k from by omega] at this)
      have lb2 : b2 < wr.heap.size := World.block_lt_of_cell? wr _ p1
      have k4 : wr.cell? ⟨w.heap.size + 1, 0, none⟩ = some (.slice (some ⟨b2, o2, none⟩) s.vars.length c4) := cell_below HB.out _ _ K4.out
      have l4 : w.heap.size + 1 < wr.heap.size := Nat.lt_of_lt_of_le l1 HB.out.size
      have i1 : (k : Int) < (c.vars.length : Int) := by omega
      have i2 : (k : Int) < (s.vars.length : Int) := by omega
      have HT := Fact.mk (ofB_take (k := kk) HL.out.1 hlt)
      have HN : Fact ((ofB kk (c.vars.take k) (s.vars.take k)).length ≤ 100000) := ⟨by have := ofB_len kk (c.vars.take k) (s.vars.take k); have := HL.out.2; simp at *; omega⟩
      have NX : Fact (k + 1 ≤ c.vars.length) := ⟨hlt⟩
      clear q1 q2 r1 r2
      generalize c.vars[k] = v at d0 d1 d2 d3 HT
      generalize s.vars[k] = x at p1 HT
      generalize ofB kk (c.vars.take k) (s.vars.take k) = os at HO HT HN
      obtain ⟨AO, nO, cO, rfl⟩ := HO.out.slice
      have BV := Fact.mk ((Below.refl _ wr).alloc (Nat.le_refl _) (.cells #[.string v.name, .int .u8 v.cls, .int .u8 v.ty, .int .i64 v.first] 43))
      by_cases hc : v.cls = kk
      · have e1 : (v.cls == kk) = true := beq_iff_eq.2 hc
        have HT2 := Fact.mk (HT.out.trans (by rw [if_pos hc]))
        clear hc HT
        go_upto_region 6 with (fail)
        have k4' := cell_below BV.out _ _ k4
        have p1' := cell_below BV.out _ _ p1
        have O6 := Fact.mk (HO.out.below BV.out)
        have B6 := Fact.mk (HB.out.trans (BV.out.mono HB.out.size))
        clear d0 d1 d2 d3 p1 k4 BV HO HB lb2 l4
        generalize wr.alloc (.cells #[.string v.name, .int .u8 v.cls, .int .u8 v.ty, .int .i64 v.first] 43) = w6 at *
        go_wp2_with (at_builtin; refine wpList_pushR rfl _ _ 31 rfl w2.heap.size 2 i0 (.int .i64 0) 1 8 Try.underlying31 hi hz0 hz1 hz2 rfl (by decide) (by decide) oneI64 _ os rfl O6.out x rfl rfl (oneI64_one _) (by have := HN.out; omega) B6.out.size ?_)
        intro v' W' ho' hr'
        obtain ⟨A', n', q', rfl⟩ := ho'.slice
        have O7 := Fact.mk ho'
        have B7 := Fact.mk (B6.out.grown hr'.g B6.out.size (fun k hk => (World.ownsRow.lt O6.out k hk).1))
        clear ho' hr'
        go_wp2_with fail
        go_roundw
        case rel => exact ⟨k + 1, NX.out, by go_num, ⟨by rw [HT2.out]; exact O7.out⟩, B7⟩
        case measure => simp [intOf]; omega
      · have e1 : (v.cls == kk) = false := beq_eq_false_iff_ne.2 hc
        have HT2 := Fact.mk (HT.out.trans (by rw [if_neg hc, List.append_nil]))
        clear hc HT
        go_wp2_with fail
        go_roundw
        case rel => exact ⟨k + 1, NX.out, by go_num, ⟨by rw [HT2.out]; exact HO.out.below BV.out⟩, ⟨HB.out.trans (BV.out.mono HB.out.size)⟩⟩
        case measure => simp [intOf]; omega
    · obtain rfl : k = c.vars.length := by omega
      have OO := HO.out
      rw [List.take_length, HL.out.1, List.take_length] at OO
      have OF := Fact.mk (OO.lower B2.out.size)
      obtain ⟨AO, nO, cO, rfl⟩ := OO.slice
      clear OO
      go_wp2_with fail
      go_ret
      exact ⟨_, rfl, OF.out, B2.out.trans (HB.out.mono B2.out.size)⟩
end Go.Proofs.Ytiogpainajokkaa

namespace Go.Proofs.Ytiogpainajokkaa
open Go.RowKit
theorem putB_end (kk : Int) (l : List Int) : putB kk [] [] l = if l = [] then some [] else none := rfl
theorem putB_skip {kk : Int} {v : GVar} {vs : List GVar} {x : Int} {xs l : List Int} (h : v.cls ≠ kk) : putB kk (v :: vs) (x :: xs) l = (putB kk vs xs l).map (x :: ·) := by simp only [putB]; rw [if_neg h]
theorem putB_nil {kk : Int} {v : GVar} {vs : List GVar} {x : Int} {xs : List Int} (h : v.cls = kk) : putB kk (v :: vs) (x :: xs) [] = none := by simp only [putB]; rw [if_pos h]
theorem putB_bad {kk : Int} {v : GVar} {vs : List GVar} {x y : Int} {xs ys : List Int} (h : v.cls = kk) (h2 : inR v.ty y = false) : putB kk (v :: vs) (x :: xs) (y :: ys) = none := by
  simp only [putB]
  rw [if_pos h]
  simp [h2]
theorem putB_ok {kk : Int} {v : GVar} {vs : List GVar} {x y : Int} {xs ys : List Int} (h : v.cls = kk) (h2 : inR v.ty y = true) : putB kk (v :: vs) (x :: xs) (y :: ys) = (putB kk vs xs ys).map (y :: ·) := by
  simp only [putB]
  rw [if_pos h]
  simp [h2]
/-- Where the loop of put stands. -/
structure PutSt (w0 w wr : World) (g q : Nat) (kk : Int) (vars : List GVar) (xs ins : List Int) (k : Nat) (lv : Value) (cur ys : List Int) : Prop where
  rd : Rd oneI64 1 w0 lv ys
  own : Own 2 1 oneI64 wr w0.heap.size (.slice (some ⟨g, 0, none⟩) xs.length q) cur
  len : cur.length = xs.length
  rest : cur.drop k = xs.drop k
  val : putB kk vars xs ins = (putB kk (vars.drop k) (xs.drop k) ys).map (cur.take k ++ ·)
  grown : w.grownBy wr (some g)
section
variable {w0 w wr : World} {g q : Nat} {kk : Int} {vars : List GVar} {xs ins : List Int} {k : Nat} {lv : Value} {cur ys : List Int}
theorem PutSt.below (h : PutSt w0 w wr g q kk vars xs ins k lv cur ys) {wr' : World} (hb : Below wr.heap.size wr wr') : PutSt w0 w wr' g q kk vars xs ins k lv cur ys :=
  ⟨h.rd, h.own.below hb, h.len, h.rest, h.val, grown_trans h.grown (grown_below hb _)⟩
theorem PutSt.next (h : PutSt w0 w wr g q kk vars xs ins k lv cur ys) (h1 : k < vars.length) (h2 : k < xs.length) (hc : vars[k].cls ≠ kk) : PutSt w0 w wr g q kk vars xs ins (k + 1) lv cur ys := by
  have hx : cur[k]? = some xs[k] := by
    have := congrArg (·[0]?) h.rest
    simp only [List.getElem?_drop, Nat.add_zero] at this
    rw [this, List.getElem?_eq_getElem h2]
  refine ⟨h.rd, h.own, h.len, ?_, ?_, h.grown⟩
  · rw [← List.drop_drop, h.rest, List.drop_drop]
  · rw [h.val, List.drop_eq_getElem_cons h1, List.drop_eq_getElem_cons h2, putB_skip hc, Option.map_map]
    congr 1
    funext l
    have hk : k < cur.length := by rw [h.len]; exact h2
    rw [List.take_succ_eq_append_getElem hk]
    have : cur[k] = xs[k] := by rw [List.getElem?_eq_getElem hk] at hx; injection hx
    rw [this]
    simp
theorem PutSt.none1 (h : PutSt w0 w wr g q kk vars xs ins k lv cur []) (h1 : k < vars.length) (h2 : k < xs.length) (hc : vars[k].cls = kk) : putB kk vars xs ins = none := by
  rw [h.val, List.drop_eq_getElem_cons h1, List.drop_eq_getElem_cons h2, putB_nil hc]; rfl
theorem PutSt.none2 {y : Int} (h : PutSt w0 w wr g q kk vars xs ins k lv cur (y :: ys)) (h1 : k < vars.length) (h2 : k < xs.length) (hc : vars[k].cls = kk) (hr : inR vars[k].ty y = false) : putB kk vars xs ins = none := by
  rw [h.val, List.drop_eq_getElem_cons h1, List.drop_eq_getElem_cons h2, putB_bad hc hr]; rfl
theorem PutSt.put {y : Int} {A : Option Addr} {c0 : Nat} (h : PutSt w0 w wr g q kk vars xs ins k (.slice A (y :: ys).length c0) cur (y :: ys)) (h1 : k < vars.length) (h2 : k < xs.length) (hc : vars[k].cls = kk) (hr : inR vars[k].ty y = true) :
    PutSt w0 w (wr.setCell ⟨g, k, none⟩ (.int .i64 y)) g q kk vars xs ins (k + 1) (tailS A (y :: ys).length c0 1) (cur.set k y) ys := by
  obtain ⟨g', hg, _, hb, hf, hcl, ho⟩ := own_put h.own k (by rw [h.len]; exact h2) y
  cases hg
  refine ⟨by simpa using h.rd.tail64 1 (by simp), ho, by rw [List.length_set]; exact h.len, ?_, ?_, grown_trans h.grown (grown_set _ _ _ _)⟩
  · rw [List.drop_set_of_lt (by omega), ← List.drop_drop, h.rest, List.drop_drop]
  · rw [h.val, List.drop_eq_getElem_cons h1, List.drop_eq_getElem_cons h2, putB_ok hc hr, Option.map_map]
    congr 1
    funext l
    have hk : k < cur.length := by rw [h.len]; exact h2
    have hk2 : k < (cur.set k y).length := by rw [List.length_set]; exact hk
    rw [List.take_succ_eq_append_getElem hk2, List.take_set, List.set_eq_of_length_le (by simp; omega)]
    simp
theorem PutSt.done (h : PutSt w0 w wr g q kk vars xs ins k lv cur ys) (h1 : k = vars.length) (h2 : k = xs.length) : putB kk vars xs ins = if ys = [] then some cur else none := by
  have e1 : vars.drop k = [] := by rw [h1, List.drop_length]
  have e2 : xs.drop k = [] := by rw [h2, List.drop_length]
  have e3 : cur.take k = cur := by rw [h2, ← h.len, List.take_length]
  rw [h.val, e1, e2, e3, putB_end]
  by_cases hy : ys = []
  · rw [if_pos hy, if_pos hy]; simp
  · rw [if_neg hy, if_neg hy]; rfl
end
/-- What put leaves: the class's values are in, or they do not fit. -/
def PutPost (w0 w : World) (g q : Nat) (n : Nat) (r : Option (List Int)) (e : Ending) (w' : World) : Prop :=
  e = .returned (.bool r.isSome) ∧ w.grownBy w' (some g) ∧ ∀ cur, r = some cur → Own 2 1 oneI64 w' w0.heap.size (.slice (some ⟨g, 0, none⟩) n q) cur
set_option maxHeartbeats 4000000 in
set_option maxRecDepth 100000 in
theorem put_some (w0 w : World) (c : GCode) (vs bs is lv : Value) (P o : Nat) (cs : Array Value) (T : TypeId) (g q : Nat) (xs ins : List Int) (kk : Int) (h : CodeRd w0 c vs bs is) (hi : Rd oneI64 1 w0 lv ins) (hb : Below w0.heap.size w0 w)
    (hP : w.heap[P]? = some (.cells cs T (0, 0))) (hT : T ≠ 2) (hV : cs[o]? = some (.slice (some ⟨g, 0, none⟩) xs.length q)) (ho : Own 2 1 oneI64 w w0.heap.size (.slice (some ⟨g, 0, none⟩) xs.length q) xs) (hl : c.vars.length = xs.length) (h1 : c.vars.length ≤ 100000) :
    Calls Try.prog 47 #[.agg #[.string c.name, vs, bs, is], .pointer (some ⟨P, o, none⟩), .int .u8 kk, lv] w (PutPost w0 w g q xs.length (putB kk c.vars xs ins)) := by
  obtain ⟨A1, c1, rfl⟩ : ∃ A c', vs = .slice A c.vars.length c' := by obtain ⟨_, A, c', h, _⟩ := h.vars; exact ⟨A, c', h⟩
  obtain ⟨A2, c2, rfl⟩ : ∃ A c', bs = .slice A c.blocks.length c' := by obtain ⟨_, A, c', h, _⟩ := h.blocks; exact ⟨A, c', h⟩
  obtain ⟨A3, c3, rfl⟩ : ∃ A c', is = .slice A c.ins.length c' := by obtain ⟨_, A, c', h, _⟩ := h.ins; exact ⟨A, c', h⟩
  obtain ⟨A4, c4, rfl⟩ : ∃ A c', lv = .slice A ins.length c' := by obtain ⟨_, A, c', h, _⟩ := hi; exact ⟨A, c', h⟩
  obtain ⟨b1, r1, z1⟩ := one_block w (.cells #[.string c.name, .slice A1 c.vars.length c1, .slice A2 c.blocks.length c2, .slice A3 c.ins.length c3] 26)
  obtain ⟨gb, hgc⟩ := own_typed ho g rfl
  have hPg : P ≠ g := fun e => by
    subst e
    obtain ⟨cur, h2⟩ := hgc
    rw [hP] at h2
    injection h2 with h2
    injection h2 with _ e2 _
    exact hT e2
  have lg : g < w.heap.size := by obtain ⟨cur, h2⟩ := hgc; exact (Array.getElem?_eq_some_iff.1 h2).1
  have lP : P < w.heap.size := (Array.getElem?_eq_some_iff.1 hP).1
  obtain ⟨r, hr⟩ : ∃ r, putB kk c.vars xs ins = r := ⟨_, rfl⟩
  rw [hr]
  have HV := Fact.mk (And.intro h.vars (And.intro hb (And.intro hP hV)))
  have HR := Fact.mk hr
  have HL := Fact.mk (And.intro hl (And.intro h1 gb))
  have R1 := Fact.mk r1
  have ST : Fact (PutSt w0 w (w.alloc (.cells #[.string c.name, .slice A1 c.vars.length c1, .slice A2 c.blocks.length c2, .slice A3 c.ins.length c3] 26)) g q kk c.vars xs ins 0 (.slice A4 ins.length c4) xs ins) := ⟨⟨hi, ho.below b1, rfl, rfl, by simp, grown_below b1 _⟩⟩
  have L1 : w.heap.size < (w.alloc (.cells #[.string c.name, .slice A1 c.vars.length c1, .slice A2 c.blocks.length c2, .slice A3 c.ins.length c3] 26)).heap.size := by rw [z1]; omega
  clear h hi hb hP hV ho hl h1 hr hgc gb b1 r1 z1
  go_enter Try.func47, Try.ntmps47
  go_upto_region 1 with (fail)
  generalize w.alloc (.cells #[.string c.name, .slice A1 c.vars.length c1, .slice A2 c.blocks.length c2, .slice A3 c.ins.length c3] 26) = w1 at *
  have k1 : w1.cell? ⟨w.heap.size, 1, none⟩ = some (.slice A1 c.vars.length c1) := cell_of_row _ _ 1 _ _ _ R1.out
  go_wp2_with fail
  go_loopw [3, 14] (fun l i wr => ∃ (k : Nat) (cur ys : List Int) (AL : Option Addr) (cL : Nat), k ≤ c.vars.length ∧ i = .int .i64 k ∧ l = .slice AL ys.length cL ∧ Fact (PutSt w0 w wr g q kk c.vars xs ins k (.slice AL ys.length cL) cur ys)) (fun _ i _ => c.vars.length - (intOf i).toNat)
  case atStart => exact ⟨0, xs, ins, _, _, Nat.zero_le _, rfl, rfl, ST⟩
  case round =>
    obtain ⟨k, cur, ys, AL, cL, hk, rfl, rfl, HS⟩ := hrel
    have HB : Fact (Below w0.heap.size w0 wr) := ⟨HV.out.2.1.grown HS.out.grown HV.out.2.1.size (fun k hk => by cases hk; exact HL.out.2.2)⟩
    have PR : Fact (wr.heap[P]? = some (.cells cs T (0, 0))) := ⟨(HS.out.grown.block P lP (fun e => hPg (by cases e; rfl))).trans HV.out.2.2.1⟩
    by_cases hlt : k < c.vars.length
    · obtain ⟨_, A, c', e, _, _, q1⟩ := HV.out.1
      cases e
      obtain ⟨b1, o1, rfl, r1⟩ := q1 (by omega)
      have hlt2 : k < xs.length := by have := HL.out.1; omega
      have d0 : wr.cell? ⟨b1, o1 + k * 4, none⟩ = some (.string c.vars[k].name) := cell_below HB.out _ _ (r1 k hlt 0 _ rfl)
      have d1 : wr.cell? ⟨b1, o1 + k * 4 + 1, none⟩ = some (.int .u8 c.vars[k].cls) := cell_below HB.out _ _ (r1 k hlt 1 _ rfl)
      have d2 : wr.cell? ⟨b1, o1 + k * 4 + 2, none⟩ = some (.int .u8 c.vars[k].ty) := cell_below HB.out _ _ (r1 k hlt 2 _ rfl)
      have d3 : wr.cell? ⟨b1, o1 + k * 4 + 3, none⟩ = some (.int .i64 c.vars[k].first) := cell_below HB.out _ _ (r1 k hlt 3 _ rfl)
      have i1 : (k : Int) < (c.vars.length : Int) := by omega
      have BV := Fact.mk (one_block wr (.cells #[.string c.vars[k].name, .int .u8 c.vars[k].cls, .int .u8 c.vars[k].ty, .int .i64 c.vars[k].first] 43))
      have NX : Fact (k + 1 ≤ c.vars.length) := ⟨hlt⟩
      by_cases hc : c.vars[k].cls = kk
      · have e1 : (c.vars[k].cls != kk) = false := by rw [hc]; exact bne_self_eq_false kk
        have HS6 := Fact.mk (HS.out.below BV.out.1)
        have PR6 := Fact.mk ((BV.out.1.block P (by have := HS.out.grown.size; omega)).trans PR.out)
        have R6 := Fact.mk BV.out.2.1
        have L6 := Fact.mk BV.out.2.2
        have B6 := Fact.mk (HB.out.trans (BV.out.1.mono HB.out.size))
        have HC := Fact.mk hc
        have N1 := Fact.mk (fun (e : ys = []) => PutSt.none1 (e ▸ HS.out) hlt hlt2 hc)
        clear q1 r1 hc
        go_upto_region 5 with (fail)
        generalize wr.alloc (.cells #[.string c.vars[k].name, .int .u8 c.vars[k].cls, .int .u8 c.vars[k].ty, .int .i64 c.vars[k].first] 43) = w6 at *
        clear d0 d1 d2 d3 e1
        have d2 : w6.cell? ⟨wr.heap.size, 2, none⟩ = some (.int .u8 c.vars[k].ty) := cell_of_row _ _ 2 _ _ _ R6.out
        have l6 : wr.heap.size < w6.heap.size := by rw [L6.out]; omega
        cases ys with
        | nil =>
          obtain rfl : none = r := by rw [← HR.out]; exact (N1.out rfl).symm
          go_wp2_with fail
          go_quiet (fail)
          go_wp2_with fail
          go_ret
          exact ⟨rfl, grown_trans HS6.out.grown (grown_drewN _ _ _), fun cur' e => by cases e⟩
        | cons y ys' =>
          obtain ⟨bl, ol, cl, e, hcl⟩ := rd_at64 HS6.out.rd 0 (by simp)
          cases e
          have hcl6 : w6.cell? ⟨bl, ol, none⟩ = some (.int .i64 y) := cell_below B6.out _ _ hcl
          have hpos : 0 < (y :: ys').length := by simp
          have hn : ¬ (y :: ys').length = 0 := by simp
          obtain ⟨n, hn2⟩ : ∃ n, (y :: ys').length = n := ⟨_, rfl⟩
          rw [hn2] at hpos hn ⊢
          have HN2 := Fact.mk hn2
          obtain ⟨ok, hok⟩ : ∃ ok, inR c.vars[k].ty y = ok := ⟨_, rfl⟩
          have WI : Fact (∀ (W : World) (q : Nat), Calls Try.prog 74 #[.int .u8 c.vars[k].ty, .int .i64 y] (W.drewN q) fun e w' => e = .returned (.bool ok) ∧ ∃ m, w' = (W.drewN q).drewN m) := ⟨fun W q => (swithin_any c.vars[k].ty y _).mono fun _ _ h => ⟨hok ▸ h.1, 0, h.2.symm⟩⟩
          have hn' : decide (n = 0) = false := decide_eq_false hn
          have HO := Fact.mk hok
          clear hcl hok hn2
          go_wp2_with fail
          cases ok with
          | true =>
            go_quiet ((go_at_call 74; exact Calls.quiet_of (WI.out _ _)))
            have BD := drewN_below (Below.refl w6.heap.size w6) nq
            have HS7 := Fact.mk (HS6.out.below BD)
            have PR7 := Fact.mk ((BD.block P (Nat.lt_trans (by have := HS.out.grown.size; omega) l6)).trans PR6.out)
            have hcl7 := cell_below BD _ _ hcl6
            have HB7 := Fact.mk (B6.out.trans (BD.mono B6.out.size))
            clear BD hcl6 WI d2
            generalize w6.drewN nq = w7 at *
            obtain ⟨g', hg, _, _, hf, hcx, _⟩ := own_put HS7.out.own k (by rw [HS7.out.len]; exact hlt2) 0
            cases hg
            have cP : w7.cell? ⟨P, o, none⟩ = some (.slice (some ⟨g, 0, none⟩) xs.length q) := (cell_of_row _ _ o _ _ _ PR7.out).trans HV.out.2.2.2
            obtain ⟨AT, cT, hTV⟩ : ∃ AT cT, tailS (some ⟨bl, ol, none⟩) n cL 1 = .slice AT ys'.length cT := ⟨_, _, by unfold tailS; rw [← HN2.out]; rfl⟩
            have hTl : ∀ W, (Instr.slice 31 (.slice (some ⟨bl, ol, none⟩) n cL) (some (.int .i64 1)) none none).run Try.prog W = .ok (.slice AT ys'.length cT) W := fun W => hTV ▸ run_tailI W (some ⟨bl, ol, none⟩) n cL 1 (by omega)
            have PUT : Fact (PutSt w0 w (w7.setCell ⟨g, k, none⟩ (.int .i64 y)) g q kk c.vars xs ins (k + 1) (.slice AT ys'.length cT) (cur.set k y) ys') := ⟨by
              have := HS7.out.put hlt hlt2 HC.out HO.out
              rw [HN2.out, hTV] at this
              exact this⟩
            have i2 : (k : Int) < (xs.length : Int) := by omega
            have lbl := World.block_lt_of_cell? w7 _ hcl7
            clear hTV
            go_wp2_with fail
            go_region
            go_wp2_with fail
            go_roundw
            case rel => exact ⟨k + 1, cur.set k y, ys', AT, cT, NX.out, by go_num, rfl, ⟨PUT.out.below (Below.refl _ _).drew⟩⟩
            case measure => simp [intOf]; omega
          | false =>
            obtain rfl : none = r := by rw [← HR.out]; exact (HS6.out.none2 hlt hlt2 HC.out HO.out).symm
            go_quiet ((go_at_call 74; exact Calls.quiet_of (WI.out _ _)))
            go_wp2_with fail
            go_ret
            exact ⟨rfl, grown_trans HS6.out.grown (grown_drewN _ _ _), fun cur' e => by cases e⟩
      · have e1 : (c.vars[k].cls != kk) = true := bne_iff_ne.2 hc
        have HS7 := Fact.mk ((HS.out.next hlt hlt2 hc).below BV.out.1)
        clear q1 r1 hc BV
        go_wp2_with fail
        go_roundw
        case rel => exact ⟨k + 1, cur, ys, AL, cL, NX.out, by go_num, rfl, HS7⟩
        case measure => simp [intOf]; omega
    · obtain rfl : k = c.vars.length := by omega
      have hD := HS.out.done rfl HL.out.1
      rw [HR.out] at hD
      by_cases hy : ys = []
      · rw [if_pos hy] at hD
        subst hy
        subst hD
        go_wp2_with fail
        go_ret
        exact ⟨rfl, HS.out.grown, fun cur' e => by cases e; exact HS.out.own⟩
      · rw [if_neg hy] at hD
        subst hD
        have hn : ¬ ys.length = 0 := fun e => hy (List.length_eq_zero_iff.1 e)
        go_wp2_with fail
        go_ret
        exact ⟨ret_bool (by simp [hy]), HS.out.grown, fun cur' e => by cases e⟩
set_option maxHeartbeats 4000000 in
set_option maxRecDepth 100000 in
/-- put, where the program has no variables. -/
theorem put_none (w : World) (c : GCode) (vs bs is lv : Value) (a : Addr) (ins : List Int) (kk : Int) (h : CodeRd w c vs bs is) (hi : Rd oneI64 1 w lv ins) (h0 : c.vars = []) :
    Calls Try.prog 47 #[.agg #[.string c.name, vs, bs, is], .pointer (some a), .int .u8 kk, lv] w fun e w' => e = .returned (.bool (putB kk c.vars [] ins).isSome) ∧ Below w.heap.size w w' := by
  obtain ⟨A1, c1, rfl⟩ : ∃ A c', vs = .slice A c.vars.length c' := by obtain ⟨_, A, c', h, _⟩ := h.vars; exact ⟨A, c', h⟩
  obtain ⟨A2, c2, rfl⟩ : ∃ A c', bs = .slice A c.blocks.length c' := by obtain ⟨_, A, c', h, _⟩ := h.blocks; exact ⟨A, c', h⟩
  obtain ⟨A3, c3, rfl⟩ : ∃ A c', is = .slice A c.ins.length c' := by obtain ⟨_, A, c', h, _⟩ := h.ins; exact ⟨A, c', h⟩
  obtain ⟨A4, c4, rfl⟩ : ∃ A c', lv = .slice A ins.length c' := by obtain ⟨_, A, c', h, _⟩ := hi; exact ⟨A, c', h⟩
  obtain ⟨r, hr⟩ : ∃ r, (putB kk c.vars [] ins).isSome = r := ⟨_, rfl⟩
  rw [hr]
  rw [h0, putB_end] at hr
  have hl : c.vars.length = 0 := by rw [h0]; rfl
  rw [hl]
  clear h hi h0
  have HR := Fact.mk hr
  clear hr
  go_enter Try.func47, Try.ntmps47
  go_wp2_with fail
  go_loopw [3, 14] (fun l i wr => l = .slice A4 ins.length c4 ∧ i = .int .i64 0 ∧ wr = w.alloc (.cells #[.string c.name, .slice A1 0 c1, .slice A2 c.blocks.length c2, .slice A3 c.ins.length c3] 26)) (fun _ i _ => 0)
  case atStart => exact ⟨rfl, rfl, rfl⟩
  case round =>
    obtain ⟨rfl, rfl, rfl⟩ := hrel
    by_cases hy : ins = []
    · subst hy
      obtain rfl : true = r := HR.out
      go_wp2_with fail
      go_ret
      exact ⟨rfl, (one_block w _).1⟩
    · obtain rfl : false = r := by rw [← HR.out, if_neg hy]; rfl
      have hn : ¬ ins.length = 0 := fun e => hy (List.length_eq_zero_iff.1 e)
      go_wp2_with fail
      go_ret
      exact ⟨ret_bool (by simp [hy]), (one_block w _).1⟩
end Go.Proofs.Ytiogpainajokkaa

