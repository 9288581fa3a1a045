/- Contract of scan.Scan. -/
import Derived.Test.YtiogpainajokkaaStM
import Derived.Test.YtiogpainajokkaaOwnM
import Derived.Test.YtiogpainajokkaaNwM
import Derived.Test.YtiogpainajokkaaScE
import Derived.Test.YtiogpainajokkaaHead
import Derived.StillTailTactics
import Derived.Deep.LoopGhost
namespace Go.Proofs.Ytiogpainajokkaa
open Go.RowKit
/-- What Scan answers. -/
def ScanPost (w : World) (r : GPlant × List Int × Nat × Int) (e : Ending) (w' : World) : Prop :=
  ∃ V B O, e = .returned (.tuple #[.agg #[V, B], O, .int .i64 (r.2.2.1 : Int), .int .i64 r.2.2.2]) ∧ PlOwn w.heap.size w' r.1 V B ∧ Own 2 1 oneI64 w' w.heap.size O r.2.1 ∧ Below w.heap.size w w'
theorem res_cell3 {P : Program} {fn : Func} {p u1 u2 u3 : Tmp} {ty : TypeId} (h : fn.results = #[.cell p ty, .tmp u1, .tmp u2, .tmp u3]) (tmps : Array Value) (w : World) (g : Nat) {t : TypeId} {cs : Array Value} {fr : Nat × Nat} {d : TypeDesc}
    (hp : tmps.getD p undef = .pointer (some ⟨g, 0, none⟩)) (hg : w.heap[g]? = some (.cells cs t fr))
    (hu : P.underlying ty = some d) (hd : (match d with | .struct _ | .array _ _ => true | _ => false) = true) (hi : (P.info? ty).map (·.size) = some cs.size) :
    (results fn tmps).run P w = .ok (.tuple #[.agg cs, tmps.getD u1 undef, tmps.getD u2 undef, tmps.getD u3 undef]) w := by
  have hp' : tmps[p]?.getD undef = .pointer (some ⟨g, 0, none⟩) := by rw [← Array.getD_eq_getD_getElem?]; exact hp
  simp [results, h, hp', asAddr, run_loadVar_row w g t ty cs fr d hg hu hd hi, Result.andThen]
theorem MSt.varsTo {w0 W W' : World} {X : Nat} {c : GCode} {vs bs is : Value} {now : Int} {m : GMach} {B S : Value} {g n q : Nat} (h : MSt w0 W X c vs bs is now m (.slice (some ⟨g, 0, none⟩) n q) B S) (hg : W.grownBy W' (some g)) (cur : List Int) (ho : Own 2 1 oneI64 W' w0.heap.size (.slice (some ⟨g, 0, none⟩) n q) cur) :
    MSt w0 W' X c vs bs is now ⟨⟨cur, m.s.blocks⟩, m.st, m.at_, m.steps⟩ (.slice (some ⟨g, 0, none⟩) n q) B S := by
  obtain ⟨hb, hcur⟩ := own_typed h.oV g rfl
  have hX : X ≠ g := fun e => by
    subst e
    obtain ⟨cs, h2⟩ := hcur
    rw [h.row] at h2
    injection h2 with h2
    injection h2 with _ e2 _
    exact absurd e2 (by decide)
  have old : ∀ k, k < W.heap.size → k ≠ g → W'.heap[k]? = W.heap[k]? := fun k hk hne => hg.block k hk (fun e => hne (by injection e))
  refine ⟨(old X h.lt hX).trans h.row, ho, h.oB.move fun b hb2 => ?_, h.oS.move fun b hb2 => ?_, h.ne, h.old, h.bel.grown hg h.bel.size (fun k hk => by cases hk; exact hb), h.lo⟩
  · obtain ⟨_, cs, h2⟩ := own_typed h.oB b hb2
    refine old b (Array.getElem?_eq_some_iff.1 h2).1 (fun e => ?_)
    subst e
    obtain ⟨cs2, h3⟩ := hcur
    rw [h2] at h3
    injection h3 with h3
    injection h3 with _ e2 _
    exact absurd e2 (by decide)
  · obtain ⟨_, cs, h2⟩ := own_typed h.oS b hb2
    exact old b (Array.getElem?_eq_some_iff.1 h2).1 (fun e => h.ne g rfl (e ▸ hb2))
section
variable {c : GCode} {s : GPlant} {ins vs : List Int} {now : Int}
theorem scanB_none (h0 : (spotsB c).2.2 = 0) (hf : fitsS c s = true) (hp : putB 1 c.vars s.vars ins = none) : scanB c s ins now = (s, [], 0, 161) := by
  unfold scanB
  rw [if_neg (by rw [h0]; decide), if_neg (by rw [hf]; decide), hp]
theorem scanB_late (h0 : (spotsB c).2.2 = 0) (hf : fitsS c s = true) (hp : putB 1 c.vars s.vars ins = some vs) (hn : now < 0 ∨ 1125899906842624 < now) : scanB c s ins now = (s, [], 0, 161) := by
  unfold scanB
  rw [if_neg (by rw [h0]; decide), if_neg (by rw [hf]; decide), hp]
  simp only [if_pos hn]
theorem scanB_bad (h0 : (spotsB c).2.2 = 0) (hf : fitsS c s = true) (hp : putB 1 c.vars s.vars ins = some vs) (hn : ¬ (now < 0 ∨ 1125899906842624 < now)) {M : GMach} {e : Int} (hm : mRun c now (c.ins.length + 1) (mStart ⟨vs, s.blocks⟩) = (M, e)) (he : e ≠ 0) : scanB c s ins now = (s, [], M.steps, e) := by
  unfold scanB
  rw [if_neg (by rw [h0]; decide), if_neg (by rw [hf]; decide), hp]
  simp only [if_neg hn, hm]
  rw [if_pos he]
theorem scanB_ok (h0 : (spotsB c).2.2 = 0) (hf : fitsS c s = true) (hp : putB 1 c.vars s.vars ins = some vs) (hn : ¬ (now < 0 ∨ 1125899906842624 < now)) {M : GMach} (hm : mRun c now (c.ins.length + 1) (mStart ⟨vs, s.blocks⟩) = (M, 0)) : scanB c s ins now = (M.s, ofB 2 c.vars M.s.vars, M.steps, 0) := by
  unfold scanB
  rw [if_neg (by rw [h0]; decide), if_neg (by rw [hf]; decide), hp]
  simp only [if_neg hn, hm]
  rw [if_neg (fun h => h rfl)]
end
theorem putB_in (kk : Int) : ∀ (vs : List GVar) (xs ins cur : List Int), okIns (vs.map (·.ty)) xs = true → putB kk vs xs ins = some cur → okIns (vs.map (·.ty)) cur = true
  | [], [], ins, cur, _, h => by
    rw [putB_end] at h
    by_cases hy : ins = []
    · rw [if_pos hy] at h; injection h with h; rw [← h]; rfl
    · rw [if_neg hy] at h; cases h
  | [], _ :: _, _, _, h, _ => by cases h
  | _ :: _, [], _, _, h, _ => by cases h
  | v :: vs, x :: xs, ins, cur, h, hp => by
    simp only [List.map_cons, okIns, Bool.and_eq_true] at h
    by_cases hc : v.cls = kk
    · cases ins with
      | nil => rw [putB_nil hc] at hp; cases hp
      | cons y ys =>
        cases hr : inR v.ty y with
        | false => rw [putB_bad hc hr] at hp; cases hp
        | true =>
          rw [putB_ok hc hr] at hp
          obtain ⟨l, hl, rfl⟩ := Option.map_eq_some_iff.1 hp
          simp only [List.map_cons, okIns, Bool.and_eq_true]
          exact ⟨hr, putB_in kk vs xs ys l h.2 hl⟩
    · rw [putB_skip hc] at hp
      obtain ⟨l, hl, rfl⟩ := Option.map_eq_some_iff.1 hp
      simp only [List.map_cons, okIns, Bool.and_eq_true]
      exact ⟨h.1, putB_in kk vs xs ins l h.2 hl⟩
theorem put_fits {c : GCode} {s : GPlant} {ins cur : List Int} (hf : fitsS c s = true) (hp : putB 1 c.vars s.vars ins = some cur) : fitsS c ⟨cur, s.blocks⟩ = true := by
  unfold fitsS tysOf at hf ⊢
  simp only [Bool.and_eq_true] at hf ⊢
  exact ⟨putB_in 1 _ _ _ _ hf.1 hp, hf.2⟩
theorem mRun_step {c : GCode} {now : Int} {f : Nat} {m : GMach} (hk : m.at_ < c.ins.length) (hz : zeroDiv m c.ins[m.at_] = false) : mRun c now (f + 1) m = mRun c now f (mStep c now m c.ins[m.at_]) := by
  rw [mRun, List.getElem?_eq_getElem hk]
  simp only [hz]
  rfl
theorem mRun_zero {c : GCode} {now : Int} {f : Nat} {m : GMach} (hk : m.at_ < c.ins.length) (hz : zeroDiv m c.ins[m.at_] = true) : mRun c now (f + 1) m = (m, 162) := by
  rw [mRun, List.getElem?_eq_getElem hk]
  simp only [hz, if_true]
theorem mRun_end {c : GCode} {now : Int} {f : Nat} {m : GMach} (hk : c.ins.length ≤ m.at_) : mRun c now (f + 1) m = (m, 0) := by
  rw [mRun, List.getElem?_eq_none hk]
theorem mRun_more {c : GCode} (h0 : (spotsB c).2.2 = 0) (now : Int) : ∀ (f g : Nat) (m : GMach), MOk c m → c.ins.length - m.at_ < f → c.ins.length - m.at_ < g → mRun c now f m = mRun c now g m := by
  intro f
  induction f with
  | zero => intro g m _ h; omega
  | succ f ih =>
    intro g m hM hf hg
    obtain ⟨g, rfl⟩ : ∃ g', g = g' + 1 := ⟨g - 1, by omega⟩
    by_cases hk : m.at_ < c.ins.length
    · cases hz : zeroDiv m c.ins[m.at_] with
      | true => rw [mRun_zero hk hz, mRun_zero hk hz]
      | false =>
        obtain ⟨h1, h2⟩ := mStep_ok h0 hM now hk
        rw [mRun_step hk hz, mRun_step hk hz]
        exact ih g _ h1 (by omega) (by omega)
    · rw [mRun_end (by omega), mRun_end (by omega)]
theorem div_top {c : GCode} (h0 : (spotsB c).2.2 = 0) {m : GMach} (hM : MOk c m) (hk : m.at_ < c.ins.length) (ho : c.ins[m.at_].op = 7 ∨ c.ins[m.at_].op = 8) : ∃ (s : List Int) (y : Int), m.st = s ++ [y] := by
  obtain ⟨S0, s0, s1, eS, est, hS, hs1, hn⟩ := met h0 hM hk
  have e : effB c c.ins[m.at_] (spotAt (spotsB c).1 m.at_).stack = ([c.ins[m.at_].t, c.ins[m.at_].t], [c.ins[m.at_].t]) := by
    unfold effB
    rw [if_neg (by omega), if_neg (by omega), if_neg (by omega), if_pos (by omega)]
  rw [e] at hs1
  obtain ⟨x, y, rfl, _, _⟩ := okIns_two hs1
  exact ⟨s0 ++ [x], y, by rw [est]; simp⟩
theorem st_len {c : GCode} (h0 : (spotsB c).2.2 = 0) {m : GMach} (hM : MOk c m) (hk : m.at_ < c.ins.length) : m.st.length ≤ 64 := by
  have := okIns_len (hM.go hk).2.1
  have := (spots_plc h0).room m.at_
  omega
/-- Values put into a machine's own variables. -/
theorem mput_any (w0 w : World) (X : Nat) (c : GCode) (vs bs is : Value) (now : Int) (m : GMach) (V B S : Value) (h : MSt w0 w X c vs bs is now m V B S) (lv : Value) (ins : List Int) (hi : Rd oneI64 1 w0 lv ins) (hl : c.vars.length = m.s.vars.length) (h1 : c.vars.length ≤ 100000) (kk : Int) :
    Calls Try.prog 47 #[.agg #[.string c.name, vs, bs, is], .pointer (some ⟨X, 4, none⟩), .int .u8 kk, lv] w fun e w' => e = .returned (.bool (putB kk c.vars m.s.vars ins).isSome) ∧ Below w0.heap.size w0 w' ∧ ∀ cur, putB kk c.vars m.s.vars ins = some cur → MSt w0 w' X c vs bs is now ⟨⟨cur, m.s.blocks⟩, m.st, m.at_, m.steps⟩ V B S := by
  by_cases hz : m.s.vars.length = 0
  · have e1 : m.s.vars = [] := List.length_eq_zero_iff.1 hz
    have e2 : c.vars = [] := List.length_eq_zero_iff.1 (by omega)
    refine (put_none w c vs bs is lv ⟨X, 4, none⟩ ins kk (h.old.below h.bel) (hi.below h.bel) e2).mono ?_
    rintro e w' ⟨rfl, hb⟩
    refine ⟨by rw [e1], h.bel.trans (hb.mono h.bel.size), fun cur hc => ?_⟩
    have hc2 : cur = m.s.vars := by
      rw [e1, e2, putB_end] at hc
      rw [e1]
      by_cases hy : ins = []
      · rw [if_pos hy] at hc; injection hc with hc; exact hc.symm
      · rw [if_neg hy] at hc; cases hc
    rw [hc2]
    exact h.below hb
  · obtain ⟨A, q, rfl⟩ := h.oV.slice2
    obtain ⟨g, rfl, _⟩ := own_put h.oV 0 (by omega) 0
    refine (put_some w0 w c vs bs is lv X 4 _ _ g q m.s.vars ins kk h.old hi h.bel h.row (by decide) rfl h.oV hl h1).mono ?_
    rintro e w' ⟨rfl, hg, hf⟩
    exact ⟨rfl, h.bel.grown hg h.bel.size (fun k hk => by cases hk; exact (own_typed h.oV g rfl).1), fun cur hc => h.varsTo hg cur (hf cur hc)⟩
/-- The boxes of Scan: its program, its state, its answer. -/
structure ScBox (w W : World) (c : GCode) (s : GPlant) (vs bs is sv sb : Value) : Prop where
  r1 : W.heap[w.heap.size]? = some (.cells #[.string c.name, vs, bs, is] 26 (0, 0))
  r2 : W.heap[w.heap.size + 1]? = some (.cells #[sv, sb] 34 (0, 0))
  r3 : W.heap[w.heap.size + 1 + 1]? = some (.cells #[.slice none 0 0, .slice none 0 0] 34 (0, 0))
  lt : w.heap.size + 1 + 1 < W.heap.size
  bel : Below w.heap.size w W
section
variable {w W W' : World} {c : GCode} {s : GPlant} {vs bs is sv sb : Value}
theorem ScBox.below (h : ScBox w W c s vs bs is sv sb) (hb : Below W.heap.size W W') : ScBox w W' c s vs bs is sv sb := by
  have lt := h.lt
  exact ⟨(hb.block _ (by omega)).trans h.r1, (hb.block _ (by omega)).trans h.r2, (hb.block _ (by omega)).trans h.r3, Nat.lt_of_lt_of_le h.lt hb.size, h.bel.trans (hb.mono h.bel.size)⟩
theorem ScBox.cells (h : ScBox w W c s vs bs is sv sb) : (W.cell? ⟨w.heap.size, 0, none⟩ = some (.string c.name) ∧ W.cell? ⟨w.heap.size, 1, none⟩ = some vs ∧ W.cell? ⟨w.heap.size, 2, none⟩ = some bs ∧ W.cell? ⟨w.heap.size, 3, none⟩ = some is) ∧ W.cell? ⟨w.heap.size + 1, 0, none⟩ = some sv ∧ W.cell? ⟨w.heap.size + 1, 1, none⟩ = some sb :=
  ⟨⟨cell_of_row _ _ 0 _ _ _ h.r1, cell_of_row _ _ 1 _ _ _ h.r1, cell_of_row _ _ 2 _ _ _ h.r1, cell_of_row _ _ 3 _ _ _ h.r1⟩, cell_of_row _ _ 0 _ _ _ h.r2, cell_of_row _ _ 1 _ _ _ h.r2⟩
/-- A state put into the answer's box. -/
theorem ScBox.answer (h : ScBox w W c s vs bs is sv sb) (V B : Value) : (W.cell? ⟨w.heap.size + 1 + 1, 0, none⟩ = some (.slice none 0 0) ∧ W.cell? ⟨w.heap.size + 1 + 1, 1, none⟩ = some (.slice none 0 0) ∧ W.frozen? ⟨w.heap.size + 1 + 1, 0, none⟩ = false ∧ W.frozen? ⟨w.heap.size + 1 + 1, 1, none⟩ = false) ∧
    ((W.setCell ⟨w.heap.size + 1 + 1, 0, none⟩ V).setCell ⟨w.heap.size + 1 + 1, 1, none⟩ B).heap[w.heap.size + 1 + 1]? = some (.cells #[V, B] 34 (0, 0)) ∧
    Below w.heap.size w ((W.setCell ⟨w.heap.size + 1 + 1, 0, none⟩ V).setCell ⟨w.heap.size + 1 + 1, 1, none⟩ B) ∧
    (∀ (p : GPlant) (V2 B2 : Value) (b : Nat), PlOwn b W p V2 B2 → PlOwn b ((W.setCell ⟨w.heap.size + 1 + 1, 0, none⟩ V).setCell ⟨w.heap.size + 1 + 1, 1, none⟩ B) p V2 B2) ∧
    (∀ (xs : List Int) (O : Value) (b : Nat), Own 2 1 oneI64 W b O xs → Own 2 1 oneI64 ((W.setCell ⟨w.heap.size + 1 + 1, 0, none⟩ V).setCell ⟨w.heap.size + 1 + 1, 1, none⟩ B) b O xs) := by
  have s0 := set2_0 (u := V) h.r3
  have s1 := set2_1 (u := B) s0
  refine ⟨⟨cell_of_row _ _ 0 _ _ _ h.r3, cell_of_row _ _ 1 _ _ _ h.r3, frozen_of_row _ _ 0 _ _ h.r3, frozen_of_row _ _ 1 _ _ h.r3⟩, s1, (h.bel.setCell (p := ⟨w.heap.size + 1 + 1, 0, none⟩) (by show w.heap.size ≤ w.heap.size + 1 + 1; omega) V).setCell (p := ⟨w.heap.size + 1 + 1, 1, none⟩) (by show w.heap.size ≤ w.heap.size + 1 + 1; omega) B, fun p V2 B2 b ho => ⟨(ho.v.set h.r3 (by decide) 0 V).set s0 (by decide) 1 B, (ho.b.set h.r3 (by decide) 0 V).set s0 (by decide) 1 B⟩, fun xs O b ho => (ho.set h.r3 (by decide) 0 V).set s0 (by decide) 1 B⟩
end
set_option maxHeartbeats 8000000 in
set_option maxRecDepth 100000 in
theorem scan_any (c : GCode) (hw : c.Wf) (hn : (c.ins.length : Int) < 9223372036854775807) (s : GPlant) (ins : List Int) (now : Int) (vs bs is sv sb lv : Value) (w : World) (h : CodeRd w c vs bs is) (hs : PlRd w s sv sb) (hi : Rd oneI64 1 w lv ins) (h1 : s.vars.length ≤ 100000) (h2 : s.blocks.length ≤ 100000) :
    Calls Try.prog 16 #[.agg #[.string c.name, vs, bs, is], .agg #[sv, sb], lv, .int .i64 now] w (ScanPost w (scanB c s ins now)) := by
  obtain ⟨A1, c1, rfl⟩ : ∃ A c', vs = .slice A c.vars.length c' := by obtain ⟨_, A, c', h, _⟩ := h.vars; exact ⟨A, c', h⟩
  obtain ⟨A2, c2, rfl⟩ : ∃ A c', bs = .slice A c.blocks.length c' := by obtain ⟨_, A, c', h, _⟩ := h.blocks; exact ⟨A, c', h⟩
  obtain ⟨A3, c3, rfl⟩ : ∃ A c', is = .slice A c.ins.length c' := by obtain ⟨_, A, c', h, _⟩ := h.ins; exact ⟨A, c', h⟩
  obtain ⟨A4, c4, rfl⟩ : ∃ A c', sv = .slice A s.vars.length c' := by obtain ⟨_, A, c', h, _⟩ := hs.v; exact ⟨A, c', h⟩
  obtain ⟨A5, c5, rfl⟩ : ∃ A c', sb = .slice A s.blocks.length c' := by obtain ⟨_, A, c', h, _⟩ := hs.b; exact ⟨A, c', h⟩
  obtain ⟨A6, c6, rfl⟩ : ∃ A c', lv = .slice A ins.length c' := by obtain ⟨_, A, c', h, _⟩ := hi; exact ⟨A, c', h⟩
  obtain ⟨wb, hwb, b0, r1, r2, r3, z3⟩ := three_blocks w (.cells #[.string c.name, .slice A1 c.vars.length c1, .slice A2 c.blocks.length c2, .slice A3 c.ins.length c3] 26) (.cells #[.slice A4 s.vars.length c4, .slice A5 s.blocks.length c5] 34) (.cells #[.slice none 0 0, .slice none 0 0] 34)
  have BX : Fact (ScBox w wb c s (.slice A1 c.vars.length c1) (.slice A2 c.blocks.length c2) (.slice A3 c.ins.length c3) (.slice A4 s.vars.length c4) (.slice A5 s.blocks.length c5)) := ⟨⟨r1, r2, r3, by omega, b0⟩⟩
  have HH := Fact.mk (And.intro h (And.intro hs (And.intro hi (And.intro h1 h2))))
  have SP := Fact.mk (fun W (hW : Below w.heap.size w W) => spots_any c hw hn _ _ _ W (h.below hW))
  have OW := Fact.mk (fun W (hW : Below w.heap.size w W) => own_any s _ _ W (hs.below hW) h1 h2)
  have FT := Fact.mk (fun W (hW : Below w.heap.size w W) => sfits_any c s _ _ _ _ _ W (h.below hW) (hs.below hW))
  obtain ⟨r, hr⟩ : ∃ r, scanB c s ins now = r := ⟨_, rfl⟩
  rw [hr]
  have HR := Fact.mk hr
  clear h hs hi h1 h2 b0 r1 r2 r3 z3 hw hn hr
  go_enter Try.func16, Try.ntmps16
  go_upto_region 1 with (fail)
  rw [← hwb]
  obtain ⟨⟨k0, k1, k2, k3⟩, k4, k5⟩ := BX.out.cells
  have lb := BX.out.lt
  clear hwb
  go_wp2_with fail
  refine (SP.out _ BX.out.bel).mono ?_
  rintro e W1 ⟨v, rfl, hsp, hb1⟩
  have hv : ∃ A n c, v = .slice A n c := by
    rcases hsp with ⟨h, _⟩ | ⟨S, _, h, _⟩
    · exact ⟨_, _, _, h⟩
    · exact ⟨_, _, _, h⟩
  obtain ⟨AP, nP, cP, rfl⟩ := hv
  have B1 := Fact.mk (BX.out.below hb1)
  clear hsp hb1 k0 k1 k2 k3 k4 k5 lb BX SP
  obtain ⟨er, her⟩ : ∃ er, (spotsB c).2.2 = er := ⟨_, rfl⟩
  rw [her]
  obtain ⟨⟨k0, k1, k2, k3⟩, k4, k5⟩ := B1.out.cells
  have lb := B1.out.lt
  by_cases h0 : er = 0
  · subst h0
    have H0 := Fact.mk her
    clear her
    obtain ⟨ft, hft⟩ : ∃ ft, fitsS c s = ft := ⟨_, rfl⟩
    rw [hft] at FT
    go_wp2_with fail
    refine (FT.out _ B1.out.bel).mono ?_
    rintro e W2 ⟨rfl, hb2⟩
    have B2 := Fact.mk (B1.out.below hb2)
    clear hb2 FT B1 k0 k1 k2 k3 k4 k5 lb
    obtain ⟨⟨k0, k1, k2, k3⟩, k4, k5⟩ := B2.out.cells
    have lb := B2.out.lt
    cases ft with
    | false =>
      obtain rfl : (s, [], 0, 160) = r := by rw [← HR.out]; unfold scanB; rw [if_neg (by rw [H0.out]; decide), if_pos hft]
      clear hft
      go_wp2_with fail
      refine (OW.out _ B2.out.bel).mono ?_
      rintro e W3 ⟨V, B, rfl, ho, hb3⟩
      obtain ⟨AV, nV, cV, rfl⟩ := ho.v.slice
      obtain ⟨AB, nB, cB, rfl⟩ := ho.b.slice
      have B3 := B2.out.below hb3
      obtain ⟨⟨u0, u1, v0, v1⟩, s1, bf, po, oo⟩ := B3.answer (.slice AV nV cV) (.slice AB nB cB)
      have FIN := Fact.mk (And.intro s1 (And.intro bf (po _ _ _ _ (ho.lower B2.out.bel.size))))
      have l2 := B3.lt
      clear s1 bf po oo ho hb3 B3 k0 k1 k2 k3 k4 k5
      go_wp2
      exact bodyPost_ret (res_cell3 Try.results16 _ _ (w.heap.size + 1 + 1) rfl FIN.out.1 Try.underlying34 rfl Try.sizePlant) rfl ⟨_, _, _, rfl, FIN.out.2.2, Own.nil _ _ _ _ _, FIN.out.2.1⟩
    | true =>
      have HF := Fact.mk hft
      clear hft
      go_upto_region 6 with (fail)
      go_cut [15] (fun s15 wx => ∃ X V B, s15 = .pointer (some ⟨X, 0, none⟩) ∧ Fact (MSt W2 wx X c (.slice A1 c.vars.length c1) (.slice A2 c.blocks.length c2) (.slice A3 c.ins.length c3) now (mStart s) V B (.slice none 0 0)))
      case first =>
        go_region_with (go_at_call 45; refine (OW.out _ (B2.out.bel.drew)).mono ?_; rintro e W3 ⟨V, B, rfl, ho, hb3⟩; obtain ⟨AV, nV, cV, rfl⟩ := ho.v.slice; obtain ⟨AB, nB, cB, rfl⟩ := ho.b.slice; have B3 := B2.out.below ((Below.refl _ _).drew.trans hb3); have HO := Fact.mk ho; have HB3 := Fact.mk hb3; obtain ⟨⟨y0, y1, y2, y3⟩, y4, y5⟩ := B3.cells; have l3 := B3.lt; clear ho hb3 B3)
        all_goals
          obtain ⟨bx, rx, zx⟩ := one_block W3 (.cells #[.string c.name, .slice A1 c.vars.length c1, .slice A2 c.blocks.length c2, .slice A3 c.ins.length c3, .slice AV nV cV, .slice AB nB cB, .slice none 0 0, .int .i64 0, .int .i64 0, .int .i64 now] 112)
          have BW := (Below.refl W2.heap.size W2).drew.trans HB3.out
          have MM := Fact.mk (MSt.mk (w0 := W2) (X := W3.heap.size) (c := c) (vs := .slice A1 c.vars.length c1) (bs := .slice A2 c.blocks.length c2) (is := .slice A3 c.ins.length c3) (now := now) (m := mStart s) (V := .slice AV nV cV) (B := .slice AB nB cB) (S := .slice none 0 0) rx (HO.out.v.below bx) (HO.out.b.below bx) (Own.nil _ _ _ _ _) (fun k _ e => by simp [Value.ownBlock] at e) (HH.out.1.below B2.out.bel) (BW.trans (bx.mono BW.size)) BW.size)
          clear bx rx zx BW y0 y1 y2 y3 y4 y5
          go_wp2_with fail
          go_meet
          exact ⟨_, _, _, rfl, MM⟩
      case rest =>
      obtain ⟨X, V, B, rfl, hm⟩ := hcut
      have MM := Fact.mk hm.out
      have B3 := Fact.mk (B2.out.below hm.out.bel)
      clear hm k0 k1 k2 k3 k4 k5 lb
      have hl : c.vars.length = s.vars.length := by
        have := HF.out
        unfold fitsS tysOf at this
        simp only [Bool.and_eq_true] at this
        have := okIns_len this.1
        rwa [List.length_map] at this
      have PU := Fact.mk (fun W (hM : MSt W2 W X c (.slice A1 c.vars.length c1) (.slice A2 c.blocks.length c2) (.slice A3 c.ins.length c3) now (mStart s) V B (.slice none 0 0)) => mput_any W2 W X c _ _ _ now (mStart s) V B _ hM (.slice A6 ins.length c6) ins (HH.out.2.2.1.below B2.out.bel) hl (by rw [hl]; exact HH.out.2.2.2.1) 1)
      have HL := Fact.mk hl
      clear hl
      obtain ⟨⟨k0, k1, k2, k3⟩, k4, k5⟩ := B3.out.cells
      have lb := B3.out.lt
      have lX := MM.out.lt
      obtain ⟨po, hpo⟩ : ∃ po, putB 1 c.vars s.vars ins = po := ⟨_, rfl⟩
      change Fact (∀ W, MSt W2 W X c _ _ _ now (mStart s) V B _ → Calls Try.prog _ _ W fun e w' => e = .returned (.bool (putB 1 c.vars s.vars ins).isSome) ∧ Below W2.heap.size W2 w' ∧ ∀ cur, putB 1 c.vars s.vars ins = some cur → _) at PU
      rw [hpo] at PU
      have HP := Fact.mk hpo
      clear hpo
      go_upto_region 7 with (fail)
      cases po with
      | none =>
        obtain rfl : (s, [], 0, 161) = r := by rw [← HR.out]; exact (scanB_none H0.out HF.out HP.out).symm
        simp only [Option.isSome_none] at PU
        refine wp_region_head 5 10 rfl (by kernel_rfl) (by kernel_rfl) ?_
        simp only [List.take_succ_cons, List.take_zero]
        repeat still_step
        refine wpStill_nil ?_
        refine wpAny_ready (rs := [5]) (by kernel_rfl) (by simp) ?_
        refine AllReady.cons rfl (fun K hK => ?_) AllReady.nil
        go_simp
        go_wp2_with (go_at_call 47; refine (PU.out _ (MM.out.below (Below.refl _ _).drew)).mono ?_; rintro e W4 ⟨rfl, hb4, hc4⟩)
        refine wpAny_take (i := 6) (oi := { dst := some 46, op := _, type := _, pos := _, after := _, guard := _ }) (v := ?_) rfl (by kernel_rfl) (by kernel_rfl) (by kernel_rfl) (fun _ _ _ h => h) (Or.inl ⟨by kernel_rfl, ?_⟩) ?_
        rotate_left
        · intro w
          go_simp
          try with_reducible rfl
        refine wpAny_take (i := 7) (oi := { dst := some 47, op := _, type := _, pos := _, after := _, guard := _ }) (v := ?_) rfl (by kernel_rfl) (by kernel_rfl) (by kernel_rfl) (fun _ _ _ h => h) (Or.inl ⟨by kernel_rfl, ?_⟩) ?_
        rotate_left
        · intro w
          go_simp
          try with_reducible rfl
        refine wpAny_take (i := 8) (oi := { dst := some 48, op := _, type := _, pos := _, after := _, guard := _ }) (v := undef) rfl (by kernel_rfl) (by kernel_rfl) (by kernel_rfl) (fun _ _ _ h => h) (Or.inr ⟨by kernel_rfl, rfl⟩) ?_
        refine wpAny_take (i := 9) (oi := { dst := some 49, op := _, type := _, pos := _, after := _, guard := _ }) (v := undef) rfl (by kernel_rfl) (by kernel_rfl) (by kernel_rfl) (fun _ _ _ h => h) (Or.inr ⟨by kernel_rfl, rfl⟩) ?_
        refine wpAny_take (i := 10) (oi := { dst := some 50, op := _, type := _, pos := _, after := _, guard := _ }) (v := ?_) rfl (by kernel_rfl) (by kernel_rfl) (by kernel_rfl) (fun _ _ _ h => h) (Or.inl ⟨by kernel_rfl, ?_⟩) ?_
        rotate_left
        · intro w
          go_simp
          try with_reducible rfl
        refine wpAny_take (i := 11) (oi := { dst := some 51, op := _, type := _, pos := _, after := _, guard := _ }) (v := ?_) rfl (by kernel_rfl) (by kernel_rfl) (by kernel_rfl) (fun _ _ _ h => h) (Or.inl ⟨by kernel_rfl, ?_⟩) ?_
        rotate_left
        · intro w
          go_simp
          try with_reducible rfl
        refine wpAny_take (i := 12) (oi := { dst := some 52, op := _, type := _, pos := _, after := _, guard := _ }) (v := undef) rfl (by kernel_rfl) (by kernel_rfl) (by kernel_rfl) (fun _ _ _ h => h) (Or.inr ⟨by kernel_rfl, rfl⟩) ?_
        refine wpAny_take (i := 13) (oi := { dst := some 53, op := _, type := _, pos := _, after := _, guard := _ }) (v := undef) rfl (by kernel_rfl) (by kernel_rfl) (by kernel_rfl) (fun _ _ _ h => h) (Or.inr ⟨by kernel_rfl, rfl⟩) ?_
        refine wpAny_take (i := 14) (oi := { dst := some 54, op := _, type := _, pos := _, after := _, guard := _ }) (v := ?_) rfl (by kernel_rfl) (by kernel_rfl) (by kernel_rfl) (fun _ _ _ h => h) (Or.inl ⟨by kernel_rfl, ?_⟩) ?_
        rotate_left
        · intro w
          go_simp
          try with_reducible rfl
        refine wpAny_done (by kernel_rfl) ?_ _
        go_simp
        have B4 := Fact.mk (B2.out.below hb4)
        clear hb4 hc4 k0 k1 k2 k3 k4 k5 lb
        obtain ⟨⟨k0, k1, k2, k3⟩, k4, k5⟩ := B4.out.cells
        have lb := B4.out.lt
        go_wp2_with fail
        refine (OW.out _ B4.out.bel).mono ?_
        rintro e W5 ⟨V, B, rfl, ho, hb5⟩
        obtain ⟨AV, nV, cV, rfl⟩ := ho.v.slice
        obtain ⟨AB, nB, cB, rfl⟩ := ho.b.slice
        have B5 := B4.out.below hb5
        obtain ⟨⟨u0, u1, v0, v1⟩, s1, bf, po, oo⟩ := B5.answer (.slice AV nV cV) (.slice AB nB cB)
        have FIN := Fact.mk (And.intro s1 (And.intro bf (po _ _ _ _ (ho.lower B4.out.bel.size))))
        have l2 := B5.lt
        clear s1 bf po oo ho hb5 B5 k0 k1 k2 k3 k4 k5
        go_wp2
        exact bodyPost_ret (res_cell3 Try.results16 _ _ (w.heap.size + 1 + 1) rfl FIN.out.1 Try.underlying34 rfl Try.sizePlant) rfl ⟨_, _, _, rfl, FIN.out.2.2, Own.nil _ _ _ _ _, FIN.out.2.1⟩
      | some cur =>
        simp only [Option.isSome_some] at PU
        by_cases hneg : now < 0
        · obtain rfl : (s, [], 0, 161) = r := by rw [← HR.out]; exact (scanB_late H0.out HF.out HP.out (.inl hneg)).symm
          have e1 : decide (now < 0) = true := decide_eq_true hneg
          clear hneg
          refine wp_region_head 5 10 rfl (by kernel_rfl) (by kernel_rfl) ?_
          simp only [List.take_succ_cons, List.take_zero]
          repeat still_step
          refine wpStill_nil ?_
          refine wpAny_ready (rs := [5]) (by kernel_rfl) (by simp) ?_
          refine AllReady.cons rfl (fun K hK => ?_) AllReady.nil
          go_simp
          go_wp2_with (go_at_call 47; refine (PU.out _ (MM.out.below (Below.refl _ _).drew)).mono ?_; rintro e W4 ⟨rfl, hb4, hc4⟩)
          refine wpAny_take (i := 6) (oi := { dst := some 46, op := _, type := _, pos := _, after := _, guard := _ }) (v := ?_) rfl (by kernel_rfl) (by kernel_rfl) (by kernel_rfl) (fun _ _ _ h => h) (Or.inl ⟨by kernel_rfl, ?_⟩) ?_
          rotate_left
          · intro w
            go_simp
            try with_reducible rfl
          refine wpAny_take (i := 7) (oi := { dst := some 47, op := _, type := _, pos := _, after := _, guard := _ }) (v := ?_) rfl (by kernel_rfl) (by kernel_rfl) (by kernel_rfl) (fun _ _ _ h => h) (Or.inl ⟨by kernel_rfl, ?_⟩) ?_
          rotate_left
          · intro w
            go_simp
            try with_reducible rfl
          refine wpAny_take (i := 8) (oi := { dst := some 48, op := _, type := _, pos := _, after := _, guard := _ }) (v := ?_) rfl (by kernel_rfl) (by kernel_rfl) (by kernel_rfl) (fun _ _ _ h => h) (Or.inl ⟨by kernel_rfl, ?_⟩) ?_
          rotate_left
          · intro w
            go_simp
            try with_reducible rfl
          refine wpAny_take (i := 9) (oi := { dst := some 49, op := _, type := _, pos := _, after := _, guard := _ }) (v := ?_) rfl (by kernel_rfl) (by kernel_rfl) (by kernel_rfl) (fun _ _ _ h => h) (Or.inl ⟨by kernel_rfl, ?_⟩) ?_
          rotate_left
          · intro w
            go_simp
            try with_reducible rfl
          refine wpAny_take (i := 10) (oi := { dst := some 50, op := _, type := _, pos := _, after := _, guard := _ }) (v := ?_) rfl (by kernel_rfl) (by kernel_rfl) (by kernel_rfl) (fun _ _ _ h => h) (Or.inl ⟨by kernel_rfl, ?_⟩) ?_
          rotate_left
          · intro w
            go_simp
            try with_reducible rfl
          refine wpAny_take (i := 11) (oi := { dst := some 51, op := _, type := _, pos := _, after := _, guard := _ }) (v := ?_) rfl (by kernel_rfl) (by kernel_rfl) (by kernel_rfl) (fun _ _ _ h => h) (Or.inl ⟨by kernel_rfl, ?_⟩) ?_
          rotate_left
          · intro w
            go_simp
            try with_reducible rfl
          refine wpAny_take (i := 12) (oi := { dst := some 52, op := _, type := _, pos := _, after := _, guard := _ }) (v := undef) rfl (by kernel_rfl) (by kernel_rfl) (by kernel_rfl) (fun _ _ _ h => h) (Or.inr ⟨by kernel_rfl, rfl⟩) ?_
          refine wpAny_take (i := 13) (oi := { dst := some 53, op := _, type := _, pos := _, after := _, guard := _ }) (v := undef) rfl (by kernel_rfl) (by kernel_rfl) (by kernel_rfl) (fun _ _ _ h => h) (Or.inr ⟨by kernel_rfl, rfl⟩) ?_
          refine wpAny_take (i := 14) (oi := { dst := some 54, op := _, type := _, pos := _, after := _, guard := _ }) (v := ?_) rfl (by kernel_rfl) (by kernel_rfl) (by kernel_rfl) (fun _ _ _ h => h) (Or.inl ⟨by kernel_rfl, ?_⟩) ?_
          rotate_left
          · intro w
            go_simp
            try with_reducible rfl
          refine wpAny_done (by kernel_rfl) ?_ _
          go_simp
          have B4 := Fact.mk (B2.out.below hb4)
          clear hb4 hc4 k0 k1 k2 k3 k4 k5 lb
          obtain ⟨⟨k0, k1, k2, k3⟩, k4, k5⟩ := B4.out.cells
          have lb := B4.out.lt
          go_wp2_with fail
          refine (OW.out _ B4.out.bel).mono ?_
          rintro e W5 ⟨V, B, rfl, ho, hb5⟩
          obtain ⟨AV, nV, cV, rfl⟩ := ho.v.slice
          obtain ⟨AB, nB, cB, rfl⟩ := ho.b.slice
          have B5 := B4.out.below hb5
          obtain ⟨⟨u0, u1, v0, v1⟩, s1, bf, po, oo⟩ := B5.answer (.slice AV nV cV) (.slice AB nB cB)
          have FIN := Fact.mk (And.intro s1 (And.intro bf (po _ _ _ _ (ho.lower B4.out.bel.size))))
          have l2 := B5.lt
          clear s1 bf po oo ho hb5 B5 k0 k1 k2 k3 k4 k5
          go_wp2
          exact bodyPost_ret (res_cell3 Try.results16 _ _ (w.heap.size + 1 + 1) rfl FIN.out.1 Try.underlying34 rfl Try.sizePlant) rfl ⟨_, _, _, rfl, FIN.out.2.2, Own.nil _ _ _ _ _, FIN.out.2.1⟩
        · by_cases hlate : 1125899906842624 < now
          · obtain rfl : (s, [], 0, 161) = r := by rw [← HR.out]; exact (scanB_late H0.out HF.out HP.out (.inr hlate)).symm
            have e1 : decide (now < 0) = false := decide_eq_false hneg
            have e2 : decide (1125899906842624 < now) = true := decide_eq_true hlate
            clear hneg hlate
            refine wp_region_head 5 10 rfl (by kernel_rfl) (by kernel_rfl) ?_
            simp only [List.take_succ_cons, List.take_zero]
            repeat still_step
            refine wpStill_nil ?_
            refine wpAny_ready (rs := [5]) (by kernel_rfl) (by simp) ?_
            refine AllReady.cons rfl (fun K hK => ?_) AllReady.nil
            go_simp
            go_wp2_with (go_at_call 47; refine (PU.out _ (MM.out.below (Below.refl _ _).drew)).mono ?_; rintro e W4 ⟨rfl, hb4, hc4⟩)
            refine wpAny_take (i := 6) (oi := { dst := some 46, op := _, type := _, pos := _, after := _, guard := _ }) (v := ?_) rfl (by kernel_rfl) (by kernel_rfl) (by kernel_rfl) (fun _ _ _ h => h) (Or.inl ⟨by kernel_rfl, ?_⟩) ?_
            rotate_left
            · intro w
              go_simp
              try with_reducible rfl
            refine wpAny_take (i := 7) (oi := { dst := some 47, op := _, type := _, pos := _, after := _, guard := _ }) (v := ?_) rfl (by kernel_rfl) (by kernel_rfl) (by kernel_rfl) (fun _ _ _ h => h) (Or.inl ⟨by kernel_rfl, ?_⟩) ?_
            rotate_left
            · intro w
              go_simp
              try with_reducible rfl
            refine wpAny_take (i := 8) (oi := { dst := some 48, op := _, type := _, pos := _, after := _, guard := _ }) (v := ?_) rfl (by kernel_rfl) (by kernel_rfl) (by kernel_rfl) (fun _ _ _ h => h) (Or.inl ⟨by kernel_rfl, ?_⟩) ?_
            rotate_left
            · intro w
              go_simp
              try with_reducible rfl
            refine wpAny_take (i := 9) (oi := { dst := some 49, op := _, type := _, pos := _, after := _, guard := _ }) (v := ?_) rfl (by kernel_rfl) (by kernel_rfl) (by kernel_rfl) (fun _ _ _ h => h) (Or.inl ⟨by kernel_rfl, ?_⟩) ?_
            rotate_left
            · intro w
              go_simp
              try with_reducible rfl
            refine wpAny_take (i := 10) (oi := { dst := some 50, op := _, type := _, pos := _, after := _, guard := _ }) (v := ?_) rfl (by kernel_rfl) (by kernel_rfl) (by kernel_rfl) (fun _ _ _ h => h) (Or.inl ⟨by kernel_rfl, ?_⟩) ?_
            rotate_left
            · intro w
              go_simp
              try with_reducible rfl
            refine wpAny_take (i := 11) (oi := { dst := some 51, op := _, type := _, pos := _, after := _, guard := _ }) (v := ?_) rfl (by kernel_rfl) (by kernel_rfl) (by kernel_rfl) (fun _ _ _ h => h) (Or.inl ⟨by kernel_rfl, ?_⟩) ?_
            rotate_left
            · intro w
              go_simp
              try with_reducible rfl
            refine wpAny_take (i := 12) (oi := { dst := some 52, op := _, type := _, pos := _, after := _, guard := _ }) (v := ?_) rfl (by kernel_rfl) (by kernel_rfl) (by kernel_rfl) (fun _ _ _ h => h) (Or.inl ⟨by kernel_rfl, ?_⟩) ?_
            rotate_left
            · intro w
              go_simp
              try with_reducible rfl
            refine wpAny_take (i := 13) (oi := { dst := some 53, op := _, type := _, pos := _, after := _, guard := _ }) (v := ?_) rfl (by kernel_rfl) (by kernel_rfl) (by kernel_rfl) (fun _ _ _ h => h) (Or.inl ⟨by kernel_rfl, ?_⟩) ?_
            rotate_left
            · intro w
              go_simp
              try with_reducible rfl
            refine wpAny_take (i := 14) (oi := { dst := some 54, op := _, type := _, pos := _, after := _, guard := _ }) (v := ?_) rfl (by kernel_rfl) (by kernel_rfl) (by kernel_rfl) (fun _ _ _ h => h) (Or.inl ⟨by kernel_rfl, ?_⟩) ?_
            rotate_left
            · intro w
              go_simp
              try with_reducible rfl
            refine wpAny_done (by kernel_rfl) ?_ _
            go_simp
            have B4 := Fact.mk (B2.out.below hb4)
            clear hb4 hc4 k0 k1 k2 k3 k4 k5 lb
            obtain ⟨⟨k0, k1, k2, k3⟩, k4, k5⟩ := B4.out.cells
            have lb := B4.out.lt
            go_wp2_with fail
            refine (OW.out _ B4.out.bel).mono ?_
            rintro e W5 ⟨V, B, rfl, ho, hb5⟩
            obtain ⟨AV, nV, cV, rfl⟩ := ho.v.slice
            obtain ⟨AB, nB, cB, rfl⟩ := ho.b.slice
            have B5 := B4.out.below hb5
            obtain ⟨⟨u0, u1, v0, v1⟩, s1, bf, po, oo⟩ := B5.answer (.slice AV nV cV) (.slice AB nB cB)
            have FIN := Fact.mk (And.intro s1 (And.intro bf (po _ _ _ _ (ho.lower B4.out.bel.size))))
            have l2 := B5.lt
            clear s1 bf po oo ho hb5 B5 k0 k1 k2 k3 k4 k5
            go_wp2
            exact bodyPost_ret (res_cell3 Try.results16 _ _ (w.heap.size + 1 + 1) rfl FIN.out.1 Try.underlying34 rfl Try.sizePlant) rfl ⟨_, _, _, rfl, FIN.out.2.2, Own.nil _ _ _ _ _, FIN.out.2.1⟩
          · have e1 : decide (now < 0) = false := decide_eq_false hneg
            have e2 : decide (1125899906842624 < now) = false := decide_eq_false hlate
            have HNOW : Fact (¬ (now < 0 ∨ 1125899906842624 < now)) := ⟨by omega⟩
            clear hneg hlate
            refine wp_region_head 5 10 rfl (by kernel_rfl) (by kernel_rfl) ?_
            simp only [List.take_succ_cons, List.take_zero]
            repeat still_step
            refine wpStill_nil ?_
            refine wpAny_ready (rs := [5]) (by kernel_rfl) (by simp) ?_
            refine AllReady.cons rfl (fun K hK => ?_) AllReady.nil
            go_simp
            go_wp2_with (go_at_call 47; refine (PU.out _ (MM.out.below (Below.refl _ _).drew)).mono ?_; rintro e W4 ⟨rfl, hb4, hc4⟩)
            refine wpAny_take (i := 6) (oi := { dst := some 46, op := _, type := _, pos := _, after := _, guard := _ }) (v := ?_) rfl (by kernel_rfl) (by kernel_rfl) (by kernel_rfl) (fun _ _ _ h => h) (Or.inl ⟨by kernel_rfl, ?_⟩) ?_
            rotate_left
            · intro w
              go_simp
              try with_reducible rfl
            refine wpAny_take (i := 7) (oi := { dst := some 47, op := _, type := _, pos := _, after := _, guard := _ }) (v := ?_) rfl (by kernel_rfl) (by kernel_rfl) (by kernel_rfl) (fun _ _ _ h => h) (Or.inl ⟨by kernel_rfl, ?_⟩) ?_
            rotate_left
            · intro w
              go_simp
              try with_reducible rfl
            refine wpAny_take (i := 8) (oi := { dst := some 48, op := _, type := _, pos := _, after := _, guard := _ }) (v := ?_) rfl (by kernel_rfl) (by kernel_rfl) (by kernel_rfl) (fun _ _ _ h => h) (Or.inl ⟨by kernel_rfl, ?_⟩) ?_
            rotate_left
            · intro w
              go_simp
              try with_reducible rfl
            refine wpAny_take (i := 9) (oi := { dst := some 49, op := _, type := _, pos := _, after := _, guard := _ }) (v := ?_) rfl (by kernel_rfl) (by kernel_rfl) (by kernel_rfl) (fun _ _ _ h => h) (Or.inl ⟨by kernel_rfl, ?_⟩) ?_
            rotate_left
            · intro w
              go_simp
              try with_reducible rfl
            refine wpAny_take (i := 10) (oi := { dst := some 50, op := _, type := _, pos := _, after := _, guard := _ }) (v := ?_) rfl (by kernel_rfl) (by kernel_rfl) (by kernel_rfl) (fun _ _ _ h => h) (Or.inl ⟨by kernel_rfl, ?_⟩) ?_
            rotate_left
            · intro w
              go_simp
              try with_reducible rfl
            refine wpAny_take (i := 11) (oi := { dst := some 51, op := _, type := _, pos := _, after := _, guard := _ }) (v := ?_) rfl (by kernel_rfl) (by kernel_rfl) (by kernel_rfl) (fun _ _ _ h => h) (Or.inl ⟨by kernel_rfl, ?_⟩) ?_
            rotate_left
            · intro w
              go_simp
              try with_reducible rfl
            refine wpAny_take (i := 12) (oi := { dst := some 52, op := _, type := _, pos := _, after := _, guard := _ }) (v := ?_) rfl (by kernel_rfl) (by kernel_rfl) (by kernel_rfl) (fun _ _ _ h => h) (Or.inl ⟨by kernel_rfl, ?_⟩) ?_
            rotate_left
            · intro w
              go_simp
              try with_reducible rfl
            refine wpAny_take (i := 13) (oi := { dst := some 53, op := _, type := _, pos := _, after := _, guard := _ }) (v := ?_) rfl (by kernel_rfl) (by kernel_rfl) (by kernel_rfl) (fun _ _ _ h => h) (Or.inl ⟨by kernel_rfl, ?_⟩) ?_
            rotate_left
            · intro w
              go_simp
              try with_reducible rfl
            refine wpAny_take (i := 14) (oi := { dst := some 54, op := _, type := _, pos := _, after := _, guard := _ }) (v := ?_) rfl (by kernel_rfl) (by kernel_rfl) (by kernel_rfl) (fun _ _ _ h => h) (Or.inl ⟨by kernel_rfl, ?_⟩) ?_
            rotate_left
            · intro w
              go_simp
              try with_reducible rfl
            refine wpAny_done (by kernel_rfl) ?_ _
            go_simp
            have M4 : Fact (MSt W2 W4 X c (.slice A1 c.vars.length c1) (.slice A2 c.blocks.length c2) (.slice A3 c.ins.length c3) now (mStart ⟨cur, s.blocks⟩) V B (.slice none 0 0)) := ⟨hc4 cur rfl⟩
            clear hb4 hc4 k0 k1 k2 k3 k4 k5 lb e1 e2 PU MM lX B3
            have OK0 := Fact.mk (mStart_ok H0.out (put_fits HF.out HP.out))
            obtain ⟨AV, nV, cV, rfl⟩ := M4.out.oV.slice
            obtain ⟨AB, nB, cB, rfl⟩ := M4.out.oB.slice
            go_wp2_with fail
            go_loopg [16] c.ins.length (fun gg _ wr => ∃ (m : GMach) (S : Value), c.ins.length - m.at_ ≤ gg ∧ Fact (MSt W2 wr X c (.slice A1 c.vars.length c1) (.slice A2 c.blocks.length c2) (.slice A3 c.ins.length c3) now m (.slice AV nV cV) (.slice AB nB cB) S) ∧ Fact (MOk c m) ∧ Fact (mRun c now (c.ins.length + 1) (mStart ⟨cur, s.blocks⟩) = mRun c now (c.ins.length - m.at_ + 1) m))
            case atStart => exact ⟨mStart ⟨cur, s.blocks⟩, _, Nat.le_refl _, M4, OK0, ⟨rfl⟩⟩
            case round =>
              obtain ⟨m, S, hgg, HM, HK, HE⟩ := hrel
              have BX := Fact.mk (B2.out.below HM.out.bel)
              obtain ⟨⟨k0, k1, k2, k3⟩, k4, k5⟩ := BX.out.cells
              have lb := BX.out.lt
              have lX := HM.out.lt
              have cA : wr.cell? ⟨X, 7, none⟩ = some (.int .i64 (m.at_ : Int)) := cell_of_row _ _ 7 _ _ _ HM.out.row
              by_cases hk : m.at_ < c.ins.length
              · have hk2 : (m.at_ : Int) < (c.ins.length : Int) := by omega
                go_wp2_with fail
                go_quiet (fail)
                have BD := drewN_below (Below.refl wr.heap.size wr) nq
                have M5 := Fact.mk (HM.out.below BD)
                have X5 := Fact.mk (BX.out.below BD)
                clear BD k0 k1 k2 k3 k4 k5 lb lX cA
                generalize wr.drewN nq = w5 at *
                obtain ⟨⟨k0, k1, k2, k3⟩, k4, k5⟩ := X5.out.cells
                have lb := X5.out.lt
                have lX := M5.out.lt
                have cA : w5.cell? ⟨X, 7, none⟩ = some (.int .i64 (m.at_ : Int)) := cell_of_row _ _ 7 _ _ _ M5.out.row
                obtain ⟨_, A, c', e, _, _, q1⟩ := (M5.out.old.below M5.out.bel).ins
                cases e
                obtain ⟨bi, oi, rfl, p1⟩ := q1 (by omega)
                have d0 : w5.cell? ⟨bi, oi + m.at_ * 4, none⟩ = some (.int .u8 c.ins[m.at_].op) := p1 m.at_ hk 0 _ rfl
                have d1 : w5.cell? ⟨bi, oi + m.at_ * 4 + 1, none⟩ = some (.int .u8 c.ins[m.at_].t) := p1 m.at_ hk 1 _ rfl
                have d2 : w5.cell? ⟨bi, oi + m.at_ * 4 + 2, none⟩ = some (.int .i64 c.ins[m.at_].a) := p1 m.at_ hk 2 _ rfl
                have d3 : w5.cell? ⟨bi, oi + m.at_ * 4 + 3, none⟩ = some (.int .i64 c.ins[m.at_].n) := p1 m.at_ hk 3 _ rfl
                have lc : w.heap.size < w5.heap.size := by omega
                have lbi : bi < w5.heap.size := World.block_lt_of_cell? w5 _ d0
                clear q1 p1
                obtain ⟨i, hi⟩ : ∃ i, c.ins[m.at_] = i := ⟨_, rfl⟩
                rw [hi] at d0 d1 d2 d3
                have HI := Fact.mk hi
                clear hi
                go_upto_region 10 with (fail)
                go_region
                have B56 := ((Below.refl w5.heap.size w5).alloc (Nat.le_refl _) (.cells #[.int .u8 i.op, .int .u8 i.t, .int .i64 i.a, .int .i64 i.n] 49)).drew
                have R6 : Fact ((w5.alloc (.cells #[.int .u8 i.op, .int .u8 i.t, .int .i64 i.a, .int .i64 i.n] 49)).drew.heap[w5.heap.size]? = some (.cells #[.int .u8 i.op, .int .u8 i.t, .int .i64 i.a, .int .i64 i.n] 49 (0, 0))) := ⟨heap_alloc_new w5 _⟩
                have l6 : w5.heap.size < (w5.alloc (.cells #[.int .u8 i.op, .int .u8 i.t, .int .i64 i.a, .int .i64 i.n] 49)).drew.heap.size := by show w5.heap.size < (w5.alloc _).heap.size; simp
                have M6 := Fact.mk (M5.out.below B56)
                have X6 := Fact.mk (X5.out.below B56)
                clear B56 k0 k1 k2 k3 k4 k5 lb lX cA d0 d1 d2 d3 lbi lc
                generalize (w5.alloc (.cells #[.int .u8 i.op, .int .u8 i.t, .int .i64 i.a, .int .i64 i.n] 49)).drew = w6 at *
                obtain ⟨⟨k0, k1, k2, k3⟩, k4, k5⟩ := X6.out.cells
                have lb := X6.out.lt
                have lX := M6.out.lt
                have b0 : w6.cell? ⟨w5.heap.size, 0, none⟩ = some (.int .u8 i.op) := cell_of_row _ _ 0 _ _ _ R6.out
                have b1 : w6.cell? ⟨w5.heap.size, 1, none⟩ = some (.int .u8 i.t) := cell_of_row _ _ 1 _ _ _ R6.out
                have b2 : w6.cell? ⟨w5.heap.size, 2, none⟩ = some (.int .i64 i.a) := cell_of_row _ _ 2 _ _ _ R6.out
                have b3 : w6.cell? ⟨w5.heap.size, 3, none⟩ = some (.int .i64 i.n) := cell_of_row _ _ 3 _ _ _ R6.out
                by_cases h7 : i.op = 7
                · have e7 : (i.op == 7) = true := beq_iff_eq.2 h7
                  obtain ⟨s0, y, hsy⟩ := div_top H0.out HK.out hk (by rw [HI.out]; exact .inl h7)
                  have hsl : m.st.length = s0.length + 1 := by rw [hsy]; simp
                  have h64 := st_len H0.out HK.out hk
                  obtain ⟨AS, qS, rfl⟩ := M6.out.oS.slice2
                  obtain ⟨gS, rfl, _, _, _, cg, _⟩ := own_put M6.out.oS s0.length (by omega) 0
                  have hgd : m.st.getD s0.length 0 = y := by rw [hsy, List.getD_eq_getElem?_getD, List.getElem?_append_right (Nat.le_refl _), Nat.sub_self]; rfl
                  rw [hgd] at cg
                  have cS : w6.cell? ⟨X, 6, none⟩ = some (.slice (some ⟨gS, 0, none⟩) m.st.length qS) := cell_of_row _ _ 6 _ _ _ M6.out.row
                  rw [hsl] at cS
                  have e0 : IntKind.i64.wrap (((s0.length + 1 : Nat) : Int) - 1) = (s0.length : Int) := by rw [IntKind.wrap_i64]; omega
                  have e1 : ((s0.length + 1 : Nat) : Int) - 1 = (s0.length : Int) := by omega
                  have i1 : s0.length < s0.length + 1 := by omega
                  have i2 : s0.length ≤ 900 := by omega
                  have e2 : IntKind.i64.wrap (s0.length : Int) = (s0.length : Int) := by rw [IntKind.wrap_i64]; omega
                  have ZD : Fact (zeroDiv m c.ins[m.at_] = decide (y = 0)) := ⟨by unfold zeroDiv; rw [HI.out, hsy, (last_app s0 y).1]; simp [h7]⟩
                  clear hsy hsl h64 hgd h7
                  by_cases hy : y = 0
                  · have HZ : Fact (zeroDiv m c.ins[m.at_] = true) := ⟨by rw [ZD.out, decide_eq_true hy]⟩
                    have ey : (y == 0) = true := beq_iff_eq.2 hy
                    clear hy ZD
                    go_wp2_with fail
                    go_quiet (fail)
                    have BD6 := drewN_below (Below.refl w6.heap.size w6) nq
                    have M7 := Fact.mk (M6.out.below BD6)
                    have X7 := Fact.mk (X6.out.below BD6)
                    have R7 := Fact.mk ((BD6.block _ l6).trans R6.out)
                    clear BD6 b0 b1 b2 b3 k0 k1 k2 k3 k4 k5 lb lX
                    generalize w6.drewN nq = w7 at *
                    obtain ⟨⟨k0, k1, k2, k3⟩, k4, k5⟩ := X7.out.cells
                    have lb := X7.out.lt
                    have lX7 := M7.out.lt
                    have b0 : w7.cell? ⟨w5.heap.size, 0, none⟩ = some (.int .u8 i.op) := cell_of_row _ _ 0 _ _ _ R7.out
                    have b1 : w7.cell? ⟨w5.heap.size, 1, none⟩ = some (.int .u8 i.t) := cell_of_row _ _ 1 _ _ _ R7.out
                    have b2 : w7.cell? ⟨w5.heap.size, 2, none⟩ = some (.int .i64 i.a) := cell_of_row _ _ 2 _ _ _ R7.out
                    have b3 : w7.cell? ⟨w5.heap.size, 3, none⟩ = some (.int .i64 i.n) := cell_of_row _ _ 3 _ _ _ R7.out
                    obtain rfl : (s, [], m.steps, 162) = r := by rw [← HR.out]; exact (scanB_bad H0.out HF.out HP.out HNOW.out (HE.out.trans (mRun_zero hk HZ.out)) (by decide)).symm
                    have cSt : w7.cell? ⟨X, 8, none⟩ = some (.int .i64 (m.steps : Int)) := cell_of_row _ _ 8 _ _ _ M7.out.row
                    go_wp2_with fail
                    go_region_with (go_at_call 45; refine (OW.out _ (X7.out.bel.drew)).mono ?_; rintro e W8 ⟨V8, B8, rfl, ho, hb8⟩; obtain ⟨AV2, nV2, cV2, rfl⟩ := ho.v.slice; obtain ⟨AB2, nB2, cB2, rfl⟩ := ho.b.slice; have X8 := X7.out.below ((Below.refl _ _).drew.trans hb8); have cSt8 := cell_below ((Below.refl _ _).drew.trans hb8) _ _ cSt; have lX8 : X < W8.heap.size := Nat.lt_of_lt_of_le lX7 hb8.size; obtain ⟨⟨u0, u1, v0, v1⟩, s1, bf, po, oo⟩ := X8.answer (.slice AV2 nV2 cV2) (.slice AB2 nB2 cB2); have FIN := Fact.mk (And.intro s1 (And.intro bf (po _ _ _ _ (ho.lower X7.out.bel.size)))); have l2 := X8.lt; clear s1 bf po oo ho hb8 X8)
                    all_goals
                      go_wp2
                      exact bodyPost_ret (res_cell3 Try.results16 _ _ (w.heap.size + 1 + 1) rfl FIN.out.1 Try.underlying34 rfl Try.sizePlant) rfl ⟨_, _, _, rfl, FIN.out.2.2, Own.nil _ _ _ _ _, FIN.out.2.1⟩
                  · have HZ : Fact (zeroDiv m c.ins[m.at_] = false) := ⟨by rw [ZD.out, decide_eq_false hy]⟩
                    have ey : (y == 0) = false := beq_eq_false_iff_ne.2 hy
                    clear hy ZD
                    go_wp2_with fail
                    go_quiet (fail)
                    have BD6 := drewN_below (Below.refl w6.heap.size w6) nq
                    have M7 := Fact.mk (M6.out.below BD6)
                    have X7 := Fact.mk (X6.out.below BD6)
                    have R7 := Fact.mk ((BD6.block _ l6).trans R6.out)
                    clear BD6 b0 b1 b2 b3 k0 k1 k2 k3 k4 k5 lb lX
                    generalize w6.drewN nq = w7 at *
                    obtain ⟨⟨k0, k1, k2, k3⟩, k4, k5⟩ := X7.out.cells
                    have lb := X7.out.lt
                    have lX7 := M7.out.lt
                    have b0 : w7.cell? ⟨w5.heap.size, 0, none⟩ = some (.int .u8 i.op) := cell_of_row _ _ 0 _ _ _ R7.out
                    have b1 : w7.cell? ⟨w5.heap.size, 1, none⟩ = some (.int .u8 i.t) := cell_of_row _ _ 1 _ _ _ R7.out
                    have b2 : w7.cell? ⟨w5.heap.size, 2, none⟩ = some (.int .i64 i.a) := cell_of_row _ _ 2 _ _ _ R7.out
                    have b3 : w7.cell? ⟨w5.heap.size, 3, none⟩ = some (.int .i64 i.n) := cell_of_row _ _ 3 _ _ _ R7.out
                    have SN := Fact.mk (mstep_any W2 w7 X c _ _ _ now m _ _ _ H0.out HK.out hk HZ.out M7.out)
                    rw [HI.out] at SN
                    have NX := Fact.mk (mStep_ok H0.out HK.out now hk)
                    have HE2 : Fact (mRun c now (c.ins.length + 1) (mStart ⟨cur, s.blocks⟩) = mRun c now (c.ins.length - (mStep c now m i).at_ + 1) (mStep c now m i)) := ⟨by
                      have h1 := NX.out
                      rw [HI.out] at h1
                      rw [HE.out, show c.ins.length - m.at_ + 1 = (c.ins.length - m.at_) + 1 from rfl, mRun_step hk HZ.out, HI.out]
                      exact mRun_more H0.out now _ _ _ h1.1 (by have := h1.2; omega) (by omega)⟩
                    rw [HI.out] at NX
                    go_wp2_with fail
                    refine SN.out.mono ?_
                    rintro e W8 ⟨rfl, S8, m8⟩
                    have M8 := Fact.mk m8
                    clear m8
                    go_wp2_with fail
                    go_roundg (c.ins.length - (mStep c now m i).at_)
                    case measure => have := NX.out.2; omega
                    case rel => exact ⟨mStep c now m i, S8, Nat.le_refl _, M8, ⟨NX.out.1⟩, HE2⟩
                · have e7 : (i.op == 7) = false := beq_eq_false_iff_ne.2 h7
                  by_cases h8 : i.op = 8
                  · have e8 : (i.op == 8) = true := beq_iff_eq.2 h8
                    obtain ⟨s0, y, hsy⟩ := div_top H0.out HK.out hk (by rw [HI.out]; exact .inr h8)
                    have hsl : m.st.length = s0.length + 1 := by rw [hsy]; simp
                    have h64 := st_len H0.out HK.out hk
                    obtain ⟨AS, qS, rfl⟩ := M6.out.oS.slice2
                    obtain ⟨gS, rfl, _, _, _, cg, _⟩ := own_put M6.out.oS s0.length (by omega) 0
                    have hgd : m.st.getD s0.length 0 = y := by rw [hsy, List.getD_eq_getElem?_getD, List.getElem?_append_right (Nat.le_refl _), Nat.sub_self]; rfl
                    rw [hgd] at cg
                    have cS : w6.cell? ⟨X, 6, none⟩ = some (.slice (some ⟨gS, 0, none⟩) m.st.length qS) := cell_of_row _ _ 6 _ _ _ M6.out.row
                    rw [hsl] at cS
                    have e0 : IntKind.i64.wrap (((s0.length + 1 : Nat) : Int) - 1) = (s0.length : Int) := by rw [IntKind.wrap_i64]; omega
                    have e1 : ((s0.length + 1 : Nat) : Int) - 1 = (s0.length : Int) := by omega
                    have i1 : s0.length < s0.length + 1 := by omega
                    have i2 : s0.length ≤ 900 := by omega
                    have e2 : IntKind.i64.wrap (s0.length : Int) = (s0.length : Int) := by rw [IntKind.wrap_i64]; omega
                    have ZD : Fact (zeroDiv m c.ins[m.at_] = decide (y = 0)) := ⟨by unfold zeroDiv; rw [HI.out, hsy, (last_app s0 y).1]; simp [h8]⟩
                    clear hsy hsl h64 hgd h7 h8
                    by_cases hy : y = 0
                    · have HZ : Fact (zeroDiv m c.ins[m.at_] = true) := ⟨by rw [ZD.out, decide_eq_true hy]⟩
                      have ey : (y == 0) = true := beq_iff_eq.2 hy
                      clear hy ZD
                      go_wp2_with fail
                      go_quiet (fail)
                      have BD6 := drewN_below (Below.refl w6.heap.size w6) nq
                      have M7 := Fact.mk (M6.out.below BD6)
                      have X7 := Fact.mk (X6.out.below BD6)
                      have R7 := Fact.mk ((BD6.block _ l6).trans R6.out)
                      clear BD6 b0 b1 b2 b3 k0 k1 k2 k3 k4 k5 lb lX
                      generalize w6.drewN nq = w7 at *
                      obtain ⟨⟨k0, k1, k2, k3⟩, k4, k5⟩ := X7.out.cells
                      have lb := X7.out.lt
                      have lX7 := M7.out.lt
                      have b0 : w7.cell? ⟨w5.heap.size, 0, none⟩ = some (.int .u8 i.op) := cell_of_row _ _ 0 _ _ _ R7.out
                      have b1 : w7.cell? ⟨w5.heap.size, 1, none⟩ = some (.int .u8 i.t) := cell_of_row _ _ 1 _ _ _ R7.out
                      have b2 : w7.cell? ⟨w5.heap.size, 2, none⟩ = some (.int .i64 i.a) := cell_of_row _ _ 2 _ _ _ R7.out
                      have b3 : w7.cell? ⟨w5.heap.size, 3, none⟩ = some (.int .i64 i.n) := cell_of_row _ _ 3 _ _ _ R7.out
                      obtain rfl : (s, [], m.steps, 162) = r := by rw [← HR.out]; exact (scanB_bad H0.out HF.out HP.out HNOW.out (HE.out.trans (mRun_zero hk HZ.out)) (by decide)).symm
                      have cSt : w7.cell? ⟨X, 8, none⟩ = some (.int .i64 (m.steps : Int)) := cell_of_row _ _ 8 _ _ _ M7.out.row
                      go_wp2_with fail
                      go_region_with (go_at_call 45; refine (OW.out _ (X7.out.bel.drew)).mono ?_; rintro e W8 ⟨V8, B8, rfl, ho, hb8⟩; obtain ⟨AV2, nV2, cV2, rfl⟩ := ho.v.slice; obtain ⟨AB2, nB2, cB2, rfl⟩ := ho.b.slice; have X8 := X7.out.below ((Below.refl _ _).drew.trans hb8); have cSt8 := cell_below ((Below.refl _ _).drew.trans hb8) _ _ cSt; have lX8 : X < W8.heap.size := Nat.lt_of_lt_of_le lX7 hb8.size; obtain ⟨⟨u0, u1, v0, v1⟩, s1, bf, po, oo⟩ := X8.answer (.slice AV2 nV2 cV2) (.slice AB2 nB2 cB2); have FIN := Fact.mk (And.intro s1 (And.intro bf (po _ _ _ _ (ho.lower X7.out.bel.size)))); have l2 := X8.lt; clear s1 bf po oo ho hb8 X8)
                      all_goals
                        go_wp2
                        exact bodyPost_ret (res_cell3 Try.results16 _ _ (w.heap.size + 1 + 1) rfl FIN.out.1 Try.underlying34 rfl Try.sizePlant) rfl ⟨_, _, _, rfl, FIN.out.2.2, Own.nil _ _ _ _ _, FIN.out.2.1⟩
                    · have HZ : Fact (zeroDiv m c.ins[m.at_] = false) := ⟨by rw [ZD.out, decide_eq_false hy]⟩
                      have ey : (y == 0) = false := beq_eq_false_iff_ne.2 hy
                      clear hy ZD
                      go_wp2_with fail
                      go_quiet (fail)
                      have BD6 := drewN_below (Below.refl w6.heap.size w6) nq
                      have M7 := Fact.mk (M6.out.below BD6)
                      have X7 := Fact.mk (X6.out.below BD6)
                      have R7 := Fact.mk ((BD6.block _ l6).trans R6.out)
                      clear BD6 b0 b1 b2 b3 k0 k1 k2 k3 k4 k5 lb lX
                      generalize w6.drewN nq = w7 at *
                      obtain ⟨⟨k0, k1, k2, k3⟩, k4, k5⟩ := X7.out.cells
                      have lb := X7.out.lt
                      have lX7 := M7.out.lt
                      have b0 : w7.cell? ⟨w5.heap.size, 0, none⟩ = some (.int .u8 i.op) := cell_of_row _ _ 0 _ _ _ R7.out
                      have b1 : w7.cell? ⟨w5.heap.size, 1, none⟩ = some (.int .u8 i.t) := cell_of_row _ _ 1 _ _ _ R7.out
                      have b2 : w7.cell? ⟨w5.heap.size, 2, none⟩ = some (.int .i64 i.a) := cell_of_row _ _ 2 _ _ _ R7.out
                      have b3 : w7.cell? ⟨w5.heap.size, 3, none⟩ = some (.int .i64 i.n) := cell_of_row _ _ 3 _ _ _ R7.out
                      have SN := Fact.mk (mstep_any W2 w7 X c _ _ _ now m _ _ _ H0.out HK.out hk HZ.out M7.out)
                      rw [HI.out] at SN
                      have NX := Fact.mk (mStep_ok H0.out HK.out now hk)
                      have HE2 : Fact (mRun c now (c.ins.length + 1) (mStart ⟨cur, s.blocks⟩) = mRun c now (c.ins.length - (mStep c now m i).at_ + 1) (mStep c now m i)) := ⟨by
                        have h1 := NX.out
                        rw [HI.out] at h1
                        rw [HE.out, show c.ins.length - m.at_ + 1 = (c.ins.length - m.at_) + 1 from rfl, mRun_step hk HZ.out, HI.out]
                        exact mRun_more H0.out now _ _ _ h1.1 (by have := h1.2; omega) (by omega)⟩
                      rw [HI.out] at NX
                      go_wp2_with fail
                      refine SN.out.mono ?_
                      rintro e W8 ⟨rfl, S8, m8⟩
                      have M8 := Fact.mk m8
                      clear m8
                      go_wp2_with fail
                      go_roundg (c.ins.length - (mStep c now m i).at_)
                      case measure => have := NX.out.2; omega
                      case rel => exact ⟨mStep c now m i, S8, Nat.le_refl _, M8, ⟨NX.out.1⟩, HE2⟩
                  · have e8 : (i.op == 8) = false := beq_eq_false_iff_ne.2 h8
                    have HZ : Fact (zeroDiv m c.ins[m.at_] = false) := ⟨by unfold zeroDiv; rw [HI.out]; simp [h7, h8]⟩
                    clear h7 h8
                    go_wp2_with fail
                    go_quiet (fail)
                    have BD6 := drewN_below (Below.refl w6.heap.size w6) nq
                    have M7 := Fact.mk (M6.out.below BD6)
                    have X7 := Fact.mk (X6.out.below BD6)
                    have R7 := Fact.mk ((BD6.block _ l6).trans R6.out)
                    clear BD6 b0 b1 b2 b3 k0 k1 k2 k3 k4 k5 lb lX
                    generalize w6.drewN nq = w7 at *
                    obtain ⟨⟨k0, k1, k2, k3⟩, k4, k5⟩ := X7.out.cells
                    have lb := X7.out.lt
                    have lX7 := M7.out.lt
                    have b0 : w7.cell? ⟨w5.heap.size, 0, none⟩ = some (.int .u8 i.op) := cell_of_row _ _ 0 _ _ _ R7.out
                    have b1 : w7.cell? ⟨w5.heap.size, 1, none⟩ = some (.int .u8 i.t) := cell_of_row _ _ 1 _ _ _ R7.out
                    have b2 : w7.cell? ⟨w5.heap.size, 2, none⟩ = some (.int .i64 i.a) := cell_of_row _ _ 2 _ _ _ R7.out
                    have b3 : w7.cell? ⟨w5.heap.size, 3, none⟩ = some (.int .i64 i.n) := cell_of_row _ _ 3 _ _ _ R7.out
                    have SN := Fact.mk (mstep_any W2 w7 X c _ _ _ now m _ _ _ H0.out HK.out hk HZ.out M7.out)
                    rw [HI.out] at SN
                    have NX := Fact.mk (mStep_ok H0.out HK.out now hk)
                    have HE2 : Fact (mRun c now (c.ins.length + 1) (mStart ⟨cur, s.blocks⟩) = mRun c now (c.ins.length - (mStep c now m i).at_ + 1) (mStep c now m i)) := ⟨by
                      have h1 := NX.out
                      rw [HI.out] at h1
                      rw [HE.out, show c.ins.length - m.at_ + 1 = (c.ins.length - m.at_) + 1 from rfl, mRun_step hk HZ.out, HI.out]
                      exact mRun_more H0.out now _ _ _ h1.1 (by have := h1.2; omega) (by omega)⟩
                    rw [HI.out] at NX
                    go_wp2_with fail
                    refine SN.out.mono ?_
                    rintro e W8 ⟨rfl, S8, m8⟩
                    have M8 := Fact.mk m8
                    clear m8
                    go_wp2_with fail
                    go_roundg (c.ins.length - (mStep c now m i).at_)
                    case measure => have := NX.out.2; omega
                    case rel => exact ⟨mStep c now m i, S8, Nat.le_refl _, M8, ⟨NX.out.1⟩, HE2⟩
              · have hat : m.at_ = c.ins.length := by have := HK.out.le; omega
                have hx : ¬ (m.at_ : Int) < (c.ins.length : Int) := by omega
                obtain rfl : (m.s, ofB 2 c.vars m.s.vars, m.steps, 0) = r := by rw [← HR.out]; exact (scanB_ok H0.out HF.out HP.out HNOW.out (HE.out.trans (mRun_end (by omega)))).symm
                have hml : c.vars.length = m.s.vars.length := by
                  have := HK.out.fits
                  unfold fitsS tysOf at this
                  simp only [Bool.and_eq_true] at this
                  have := okIns_len this.1
                  rwa [List.length_map] at this
                have OF := Fact.mk (fun W (hW : Below wr.heap.size wr W) => of_any c m.s _ _ _ _ _ 2 W (HH.out.1.below (BX.out.bel.trans (hW.mono BX.out.bel.size))) ((PlOwn.mk HM.out.oV HM.out.oB).rd.below hW) hml (by have := (right_parts (spots_right H0.out)).2.1; omega))
                clear hml hat
                go_wp2_with fail
                go_quiet (fail)
                have BD := drewN_below (Below.refl wr.heap.size wr) nq
                have M5 := Fact.mk (HM.out.below BD)
                have X5 := Fact.mk (BX.out.below BD)
                have OF5 := Fact.mk (fun W (hW : Below (wr.drewN nq).heap.size (wr.drewN nq) W) => OF.out W (BD.trans (hW.mono BD.size)))
                clear BD k0 k1 k2 k3 k4 k5 lb lX cA OF
                generalize wr.drewN nq = w5 at *
                obtain ⟨⟨k0, k1, k2, k3⟩, k4, k5⟩ := X5.out.cells
                have lb := X5.out.lt
                have lX := M5.out.lt
                have cV' : w5.cell? ⟨X, 4, none⟩ = some (.slice AV nV cV) := cell_of_row _ _ 4 _ _ _ M5.out.row
                have cB' : w5.cell? ⟨X, 5, none⟩ = some (.slice AB nB cB) := cell_of_row _ _ 5 _ _ _ M5.out.row
                have cSt : w5.cell? ⟨X, 8, none⟩ = some (.int .i64 (m.steps : Int)) := cell_of_row _ _ 8 _ _ _ M5.out.row
                have hne : X ≠ w.heap.size + 1 + 1 := by have := M5.out.lo; have := B2.out.lt; omega
                go_upto_region 14 with (fail)
                have CTX : SCtx X w.heap.size (w.heap.size + 1 + 1) c.name (.slice A1 c.vars.length c1) (.slice A2 c.blocks.length c2) (.slice A3 c.ins.length c3) (.slice AV nV cV) (.slice AB nB cB) (m.steps : Int) (ofB 2 c.vars m.s.vars) w5 := ⟨cV', cB', cSt, k0, k1, k2, k3, ⟨_, _, X5.out.r3⟩, hne, ⟨⟨_, _, _, rfl⟩, ⟨_, _, _, rfl⟩⟩, OF5.out⟩
                refine scan_region CTX _ ?_ ?_ ?_ ?_ ?_ ?_
                · rfl
                · rfl
                · rfl
                · rfl
                · rfl
                intro a O w6 ha h8 h9 h10 h11 hb6 hO
                have M6 := M5.out.below hb6
                have X6 := X5.out.below hb6
                obtain ⟨-, s1, bf, po, oo⟩ := X6.answer (.slice AV nV cV) (.slice AB nB cB)
                have FIN := Fact.mk (And.intro s1 (And.intro bf (And.intro (po _ _ _ _ ((PlOwn.mk M6.oV M6.oB).lower B2.out.bel.size)) (oo _ _ _ (hO.lower X5.out.bel.size)))))
                have h8' : a.tmps.getD 8 undef = .pointer (some ⟨w.heap.size + 1 + 1, 0, none⟩) := h8
                have h9' : a.tmps.getD 9 undef = O := h9
                have h10' : a.tmps.getD 10 undef = .int .i64 (m.steps : Int) := h10
                have h11' : a.tmps.getD 11 undef = .int .i64 0 := h11
                clear s1 bf po oo hO hb6 X6 M6 h8 h9 h10 h11
                go_wp2
                exact bodyPost_ret (res_cell3 Try.results16 _ _ (w.heap.size + 1 + 1) h8' FIN.out.1 Try.underlying34 rfl Try.sizePlant) ha ⟨_, _, O, by rw [h9', h10', h11'], FIN.out.2.2.1, FIN.out.2.2.2, FIN.out.2.1⟩
  · have hb : (er != 0) = true := bne_iff_ne.2 h0
    obtain rfl : (s, [], 0, er) = r := by rw [← HR.out]; unfold scanB; rw [if_pos (by rw [her]; exact h0), her]
    clear h0 her
    go_wp2_with fail
    refine (OW.out _ B1.out.bel).mono ?_
    rintro e W2 ⟨V, B, rfl, ho, hb2⟩
    obtain ⟨AV, nV, cV, rfl⟩ := ho.v.slice
    obtain ⟨AB, nB, cB, rfl⟩ := ho.b.slice
    have B2 := B1.out.below hb2
    obtain ⟨⟨u0, u1, v0, v1⟩, s1, bf, po, oo⟩ := B2.answer (.slice AV nV cV) (.slice AB nB cB)
    have FIN := Fact.mk (And.intro s1 (And.intro bf (po _ _ _ _ (ho.lower B1.out.bel.size))))
    have l2 := B2.lt
    clear s1 bf po oo ho hb2 B2 k0 k1 k2 k3 k4 k5
    go_wp2
    exact bodyPost_ret (res_cell3 Try.results16 _ _ (w.heap.size + 1 + 1) rfl FIN.out.1 Try.underlying34 rfl Try.sizePlant) rfl ⟨_, _, _, rfl, FIN.out.2.2, Own.nil _ _ _ _ _, FIN.out.2.1⟩
end Go.Proofs.Ytiogpainajokkaa

