/- The contract of code.fits. -/
import Derived.Test.YtiogpainajokkaaFitsB
import Derived.Outline
import Derived.Laws.EntriesVeiled
import Derived.Shelf.Abstract
namespace Go.Proofs.Ytiogpainajokkaa
open Go.RowKit Go.Shelf
def chk (c : GCode) (i : GIns) (ch : UInt8) (n : Int) : Bool :=
  if ch = 45 then belowB 1 n else if ch = 116 then typedB n else if ch = 118 then belowB c.vars.length n else if ch = 106 then belowB (c.ins.length + 1) n else if ch = 98 then belowB c.blocks.length n
  else if ch = 119 then wholeB n else if ch = 115 then storeB c.vars n else if ch = 110 then withinB i.t n else if ch = 112 then belowB ((pinsOut (c.blocks.getD i.a.toNat 0)).length : Int) n else false
def fitsB (c : GCode) (i : GIns) : Bool :=
  match shapeStr i.op with
  | [c0, c1, c2] => chk c i c0 i.t && chk c i c1 i.a && chk c i c2 i.n
  | _ => false
def SC (l : List UInt8) : Prop := l = [] ∨ ∃ c0 c1 c2, l = [c0, c1, c2] ∧ (c0 = 45 ∨ c0 = 116 ∨ c0 = 119) ∧ (c1 = 45 ∨ c1 = 118 ∨ c1 = 115 ∨ c1 = 116 ∨ c1 = 106 ∨ c1 = 98) ∧ (c2 = 45 ∨ c2 = 110 ∨ (c2 = 112 ∧ c1 = 98))
theorem SC.ite {p : Prop} [Decidable p] {a b : List UInt8} (ha : SC a) (hb : SC b) : SC (if p then a else b) := by split <;> assumption
theorem SC.mk (c0 c1 c2 : UInt8) (h : (c0 = 45 ∨ c0 = 116 ∨ c0 = 119) ∧ (c1 = 45 ∨ c1 = 118 ∨ c1 = 115 ∨ c1 = 116 ∨ c1 = 106 ∨ c1 = 98) ∧ (c2 = 45 ∨ c2 = 110 ∨ (c2 = 112 ∧ c1 = 98))) : SC [c0, c1, c2] := .inr ⟨c0, c1, c2, rfl, h⟩
theorem shape_cases (o : Int) : SC (shapeStr o) := by
  unfold shapeStr
  repeat' apply SC.ite
  all_goals first | exact .inl rfl | exact SC.mk _ _ _ (by decide)
/-- A function value that may be called with a number, and answers so. -/
def CallsV (v : Value) (n : Int) (W : World) (r : Bool) : Prop :=
  ∃ g lb, v = .func (.func g) #[] lb ∧ (∀ args w, (callFunc g args).run Try.prog w = .ok (.enter g args) w) ∧ Calls Try.prog g (#[.int .i64 n] ++ lb) W fun e w' => e = .returned (.bool r) ∧ Below W.heap.size W w'
theorem same_below {e e0 : Ending} {w w' : World} (h : e = e0 ∧ w = w') : e = e0 ∧ Below w.heap.size w w' := ⟨h.1, h.2 ▸ Below.refl _ _⟩
structure LCtx (c : GCode) (i : GIns) (bc bi bb : Nat) (vs bs : Value) (W : World) : Prop where
  c1 : W.cell? ⟨bc, 1, none⟩ = some vs
  c2 : W.cell? ⟨bc, 2, none⟩ = some bs
  i1 : W.cell? ⟨bi, 1, none⟩ = some (.int .u8 i.t)
  i2 : W.cell? ⟨bi, 2, none⟩ = some (.int .i64 i.a)
  cb : W.cell? ⟨bb, 0, none⟩ = some (.func (.func 145) #[] #[])
  rv : Rd encVar 4 W vs c.vars
  rb : Rd oneU8 1 W bs c.blocks
  hbc : bc < W.heap.size
theorem LCtx.below {c : GCode} {i : GIns} {bc bi bb : Nat} {vs bs : Value} {W W' : World} (h : LCtx c i bc bi bb vs bs W) (hb : Below W.heap.size W W') : LCtx c i bc bi bb vs bs W' :=
  ⟨cell_below hb _ _ h.c1, cell_below hb _ _ h.c2, cell_below hb _ _ h.i1, cell_below hb _ _ h.i2, cell_below hb _ _ h.cb, h.rv.below hb, h.rb.below hb, Nat.lt_of_lt_of_le h.hbc hb.size⟩
theorem letter_any {c : GCode} {i : GIns} {bc bi bb : Nat} {vs bs : Value} {A1 A2 A3 : Option Addr} {c1 c2 c3 : Nat} {W : World} (L : LCtx c i bc bi bb vs bs W) {fn : Int → Option Value}
    (hG : ∀ x ∈ fG bc bi bb A1 A2 A3 c.vars.length c.blocks.length c.ins.length c1 c2 c3, ∃ v, fn x.2.1 = some v ∧ IsV W x.2.2 v) (ch : UInt8)
    (hch : ch = 45 ∨ ch = 116 ∨ ch = 118 ∨ ch = 106 ∨ ch = 98 ∨ ch = 119 ∨ ch = 115 ∨ ch = 110 ∨ ch = 112) (hp : ch = 112 → 0 ≤ i.a ∧ i.a < c.blocks.length) (n : Int) : ∃ v, fn (ch.toNat : Int) = some v ∧ CallsV v n W (chk c i ch n) := by
  rcases hch with rfl | rfl | rfl | rfl | rfl | rfl | rfl | rfl | rfl
  · obtain ⟨v, h1, B, rfl, h2⟩ := hG (3, 45, .clo 146 1) (by simp [fG])
    exact ⟨_, h1, _, _, rfl, enters_of Try.func146 (by kernel_rfl) rfl, (below_any n 1 _ W h2).mono fun _ _ h => same_below h⟩
  · obtain ⟨v, h1, rfl⟩ := hG (4, 116, .val (.func (.func 112) #[] #[])) (by simp [fG])
    exact ⟨_, h1, _, _, rfl, enters_of Try.func112 (by kernel_rfl) rfl, (typed_any n W).mono fun _ _ h => same_below h⟩
  · obtain ⟨v, h1, B, rfl, h2⟩ := hG (10, 118, .clo 146 (c.vars.length : Int)) (by simp [fG])
    exact ⟨_, h1, _, _, rfl, enters_of Try.func146 (by kernel_rfl) rfl, (below_any n _ _ W h2).mono fun _ _ h => same_below h⟩
  · obtain ⟨v, h1, B, rfl, h2⟩ := hG (17, 106, .clo 146 ((c.ins.length : Int) + 1)) (by simp [fG])
    exact ⟨_, h1, _, _, rfl, enters_of Try.func146 (by kernel_rfl) rfl, (below_any n _ _ W h2).mono fun _ _ h => same_below h⟩
  · obtain ⟨v, h1, B, rfl, h2⟩ := hG (23, 98, .clo 146 (c.blocks.length : Int)) (by simp [fG])
    exact ⟨_, h1, _, _, rfl, enters_of Try.func146 (by kernel_rfl) rfl, (below_any n _ _ W h2).mono fun _ _ h => same_below h⟩
  · obtain ⟨v, h1, rfl⟩ := hG (24, 119, .val (.func (.func 147) #[] #[])) (by simp [fG])
    exact ⟨_, h1, _, _, rfl, enters_of Try.func147 (by kernel_rfl) rfl, (whole_any n W).mono fun _ _ h => same_below h⟩
  · obtain ⟨v, h1, rfl⟩ := hG (26, 115, .val (.func (.func 148) #[] #[.pointer (some ⟨bb, 0, none⟩), .pointer (some ⟨bc, 0, none⟩)])) (by simp [fG])
    exact ⟨_, h1, _, _, rfl, enters_of Try.func148 (by kernel_rfl) rfl, store_any n c.vars vs _ bc W L.cb L.c1 L.rv L.hbc⟩
  · obtain ⟨v, h1, rfl⟩ := hG (28, 110, .val (.func (.func 149) #[] #[.pointer (some ⟨bi, 0, none⟩)])) (by simp [fG])
    exact ⟨_, h1, _, _, rfl, enters_of Try.func149 (by kernel_rfl) rfl, (num_any n i.t bi W L.i1).mono fun _ _ h => same_below h⟩
  · obtain ⟨v, h1, rfl⟩ := hG (30, 112, .val (.func (.func 150) #[] #[.pointer (some ⟨bc, 0, none⟩), .pointer (some ⟨bi, 0, none⟩), .pointer (some ⟨bb, 0, none⟩)])) (by simp [fG])
    obtain ⟨h3, h4⟩ := hp rfl
    exact ⟨_, h1, _, _, rfl, enters_of Try.func150 (by kernel_rfl) rfl, pin_any n i.a c.blocks bs _ bc bi W L.cb L.c2 L.i2 L.rb h3 h4⟩
set_option maxHeartbeats 4000000 in
set_option maxRecDepth 100000 in
theorem fits_no (c : GCode) (i : GIns) (vs bs is : Value) (w : World) (h : CodeRd w c vs bs is) (hn : (c.ins.length : Int) < 9223372036854775807) (h0 : shapeStr i.op = []) :
    Calls Try.prog 119 #[.agg #[.string c.name, vs, bs, is], .agg #[.int .u8 i.op, .int .u8 i.t, .int .i64 i.a, .int .i64 i.n]] w fun e w' => e = .returned (.bool false) ∧ Below w.heap.size w w' := by
  obtain ⟨hv, hb, his⟩ := h
  obtain ⟨A1, c1, rfl⟩ : ∃ A c', vs = .slice A c.vars.length c' := by obtain ⟨_, A, c', h, _⟩ := hv; exact ⟨A, c', h⟩
  obtain ⟨A2, c2, rfl⟩ : ∃ A c', bs = .slice A c.blocks.length c' := by obtain ⟨_, A, c', h, _⟩ := hb; exact ⟨A, c', h⟩
  obtain ⟨A3, c3, rfl⟩ : ∃ A c', is = .slice A c.ins.length c' := by obtain ⟨_, A, c', h, _⟩ := his; exact ⟨A, c', h⟩
  go_enter Try.func119, Try.ntmps119
  go_wp2_with fail
  obtain ⟨w0, hW, hb0, hbC, hbI, hbF, hsz⟩ := three_blocks w (.cells #[.string c.name, .slice A1 c.vars.length c1, .slice A2 c.blocks.length c2, .slice A3 c.ins.length c3] 26) (.cells #[.int .u8 i.op, .int .u8 i.t, .int .i64 i.a, .int .i64 i.n] 49) (.cells #[.func (.func 145) #[] #[]] 226)
  rw [← hW]
  clear hW
  have C : FCtx w.heap.size (w.heap.size + 1) (w.heap.size + 1 + 1) A1 A2 A3 c.vars.length c.blocks.length c.ins.length c1 c2 c3 w0 :=
    ⟨by rw [cell_of_row _ _ 1 _ _ _ hbC]; rfl, by rw [cell_of_row _ _ 2 _ _ _ hbC]; rfl, by rw [cell_of_row _ _ 3 _ _ _ hbC]; rfl, by rw [cell_of_row _ _ 0 _ _ _ hbF]; rfl, by have := hv.1; omega, by have := hb.1; omega, hn⟩
  refine fits_region C ?_
  intro u10 u11 u12 u13 u14 u15 u16 u17 u18 u19 u20 u21 u22 u23 u24 u25 u26 u27 u28 u29 u30 u31 u32 M fn w1 hMB hfn hG hb1
  have HG := Fact.mk hG
  have HM := Fact.mk hfn
  have HC := Fact.mk C
  clear hG hfn C
  have hb2 := hb0.trans (hb1.mono hb0.size)
  have cop : w1.cell? ⟨w.heap.size + 1, 0, none⟩ = some (.int .u8 i.op) := cell_below hb1 _ _ (by rw [cell_of_row _ _ 0 _ _ _ hbI]; rfl)
  clear hbC hbI hbF
  have HB1 := Fact.mk hb1
  clear hb1
  go_wp2_with fail
  refine (shape_any _ _).mono ?_
  rintro e w2 ⟨rfl, hb3⟩
  rw [h0]
  clear h0
  go_wp2
  go_ret
  exact ⟨rfl, hb2.trans (hb3.mono hb2.size)⟩
theorem pin_ok {c : GCode} {i : GIns} {a1 a2 : UInt8} {g1 : Bool} (h : a2 = 45 ∨ a2 = 110 ∨ (a2 = 112 ∧ a1 = 98)) (h2 : a2 = 112) (hg : g1 = true) (h1 : chk c i a1 i.a = g1) : 0 ≤ i.a ∧ i.a < c.blocks.length := by
  subst h2
  rcases h with h | h | ⟨_, h⟩
  · cases h
  · cases h
  · subst h
    rw [hg] at h1
    simpa [chk, belowB] using h1
set_option maxHeartbeats 4000000 in
set_option maxRecDepth 100000 in
theorem fits_yes (c : GCode) (i : GIns) (vs bs is : Value) (w : World) (h : CodeRd w c vs bs is) (hw : i.Wf) (hn : (c.ins.length : Int) < 9223372036854775807) (a0 a1 a2 : UInt8) (hs : shapeStr i.op = [a0, a1, a2]) (h0 : a0 = 45 ∨ a0 = 116 ∨ a0 = 119) (h1 : a1 = 45 ∨ a1 = 118 ∨ a1 = 115 ∨ a1 = 116 ∨ a1 = 106 ∨ a1 = 98) (h2 : a2 = 45 ∨ a2 = 110 ∨ (a2 = 112 ∧ a1 = 98)) (g0 g1 g2 : Bool) (hg0 : chk c i a0 i.t = g0) (hg1 : chk c i a1 i.a = g1) (hg2 : chk c i a2 i.n = g2) :
    Calls Try.prog 119 #[.agg #[.string c.name, vs, bs, is], .agg #[.int .u8 i.op, .int .u8 i.t, .int .i64 i.a, .int .i64 i.n]] w fun e w' => e = .returned (.bool (g0 && g1 && g2)) ∧ Below w.heap.size w w' := by
  have F1 := Fact.mk (And.intro h0 (And.intro h1 h2))
  have F2 := Fact.mk (And.intro hg0 (And.intro hg1 hg2))
  have F3 := Fact.mk hs
  clear h0 h1 h2 hg0 hg1 hg2 hs
  obtain ⟨hv, hb, his⟩ := h
  obtain ⟨A1, c1, rfl⟩ : ∃ A c', vs = .slice A c.vars.length c' := by obtain ⟨_, A, c', h, _⟩ := hv; exact ⟨A, c', h⟩
  obtain ⟨A2, c2, rfl⟩ : ∃ A c', bs = .slice A c.blocks.length c' := by obtain ⟨_, A, c', h, _⟩ := hb; exact ⟨A, c', h⟩
  obtain ⟨A3, c3, rfl⟩ : ∃ A c', is = .slice A c.ins.length c' := by obtain ⟨_, A, c', h, _⟩ := his; exact ⟨A, c', h⟩
  go_enter Try.func119, Try.ntmps119
  go_wp2_with fail
  obtain ⟨w0, hW, hb0, hbC, hbI, hbF, hsz⟩ := three_blocks w (.cells #[.string c.name, .slice A1 c.vars.length c1, .slice A2 c.blocks.length c2, .slice A3 c.ins.length c3] 26) (.cells #[.int .u8 i.op, .int .u8 i.t, .int .i64 i.a, .int .i64 i.n] 49) (.cells #[.func (.func 145) #[] #[]] 226)
  rw [← hW]
  clear hW
  have C : FCtx w.heap.size (w.heap.size + 1) (w.heap.size + 1 + 1) A1 A2 A3 c.vars.length c.blocks.length c.ins.length c1 c2 c3 w0 :=
    ⟨by rw [cell_of_row _ _ 1 _ _ _ hbC]; rfl, by rw [cell_of_row _ _ 2 _ _ _ hbC]; rfl, by rw [cell_of_row _ _ 3 _ _ _ hbC]; rfl, by rw [cell_of_row _ _ 0 _ _ _ hbF]; rfl, by have := hv.1; omega, by have := hb.1; omega, hn⟩
  refine fits_region C ?_
  intro u10 u11 u12 u13 u14 u15 u16 u17 u18 u19 u20 u21 u22 u23 u24 u25 u26 u27 u28 u29 u30 u31 u32 M fn w1 hMB hfn hG hb1
  have HG := Fact.mk hG
  have HM := Fact.mk hfn
  clear hG hfn
  have hb2 := hb0.trans (hb1.mono hb0.size)
  have cop : w1.cell? ⟨w.heap.size + 1, 0, none⟩ = some (.int .u8 i.op) := cell_below hb1 _ _ (by rw [cell_of_row _ _ 0 _ _ _ hbI]; rfl)
  have ci1 : w1.cell? ⟨w.heap.size + 1, 1, none⟩ = some (.int .u8 i.t) := cell_below hb1 _ _ (by rw [cell_of_row _ _ 1 _ _ _ hbI]; rfl)
  have ci2 : w1.cell? ⟨w.heap.size + 1, 2, none⟩ = some (.int .i64 i.a) := cell_below hb1 _ _ (by rw [cell_of_row _ _ 2 _ _ _ hbI]; rfl)
  have ci3 : w1.cell? ⟨w.heap.size + 1, 3, none⟩ = some (.int .i64 i.n) := cell_below hb1 _ _ (by rw [cell_of_row _ _ 3 _ _ _ hbI]; rfl)
  have L : LCtx c i w.heap.size (w.heap.size + 1) (w.heap.size + 1 + 1) (.slice A1 c.vars.length c1) (.slice A2 c.blocks.length c2) w1 :=
    ⟨cell_below hb1 _ _ C.c1, cell_below hb1 _ _ C.c2, ci1, ci2, cell_below hb1 _ _ C.cb, hv.below hb2, hb.below hb2, by have := hb1.size; omega⟩
  have HL := Fact.mk L
  clear hbC hbI hbF L
  have HB1 := Fact.mk hb1
  clear C
  clear hb1
  go_wp2_with fail
  refine (shape_any _ _).mono ?_
  rintro e w2 ⟨rfl, hb3⟩
  rw [F3.out]
  have HB3 := Fact.mk hb3
  have di1 := cell_below hb3 _ _ ci1
  have di2 := cell_below hb3 _ _ ci2
  have di3 := cell_below hb3 _ _ ci3
  obtain ⟨⟨ht0, ht1⟩⟩ := Fact.mk hw.t
  clear hb3 ci1 ci2 ci3 cop
  have hx0 : ∀ (x y z : Value) (w : World), (Instr.index 229 (.agg #[x, y, z]) (.int .i64 0)).run Try.prog w = .ok x w := fun _ _ _ _ => by kernel_rfl
  have hx1 : ∀ (x y z : Value) (w : World), (Instr.index 229 (.agg #[x, y, z]) (.int .i64 1)).run Try.prog w = .ok y w := fun _ _ _ _ => by kernel_rfl
  have hx2 : ∀ (x y z : Value) (w : World), (Instr.index 229 (.agg #[x, y, z]) (.int .i64 2)).run Try.prog w = .ok z w := fun _ _ _ _ => by kernel_rfl
  go_wp2_with fail
  go_loopw [46] (fun v wr => ∃ k : Nat, k ≤ 3 ∧ v = .int .i64 k ∧ Fact (Below w2.heap.size w2 wr) ∧ Fact ((1 ≤ k → g0 = true) ∧ (2 ≤ k → g1 = true) ∧ (3 ≤ k → g2 = true))) (fun v _ => 3 - (intOf v).toNat)
  case atStart => exact ⟨0, by omega, rfl, ⟨Below.refl _ _⟩, ⟨⟨fun h => by omega, fun h => by omega, fun h => by omega⟩⟩⟩
  case round =>
    obtain ⟨k, hk, rfl, hbr, hgs⟩ := hrel
    rcases (show k = 0 ∨ k = 1 ∨ k = 2 ∨ k = 3 by omega) with rfl | rfl | rfl | rfl
    · clear hx1 hx2
      have hbw : Below w1.heap.size w1 wr := HB3.out.trans (hbr.out.mono HB3.out.size)
      obtain ⟨v, hv1, g, lb, rfl, eg, hcall⟩ := letter_any (HL.out.below hbw) (fun x hx => let ⟨v, h1, h2⟩ := HG.out x hx; ⟨v, h1, h2.move (cell_below hbw)⟩) a0 (by rcases F1.out.1 with h | h | h <;> simp [h]) (fun h => by rcases F1.out.1 with e | e | e <;> (rw [e] at h; cases h)) i.t
      have hl : (Instr.lookup 227 (.map (some M)) (.int .u8 (((⟨#[a0, a1, a2]⟩ : ByteArray)[0]'(by show 0 < 3; decide)).toNat : Int)) false).run Try.prog wr = .ok (.func (.func g) #[] lb) wr := (HM.out.keep (hbw.block M HM.out.lt)).run_hit (keyLaw_int Try.underlying5) Try.underlying227 hv1
      rw [F2.out.1] at hcall
      have HBW := Fact.mk hbw
      clear hbw hv1
      cases g0 with
      | false =>
        go_wp2_with (go_at_fn g; refine hcall.mono ?_; rintro e w' ⟨rfl, hb'⟩)
        go_ret
        exact ⟨ret_bool (rfl), hb2.trans ((HBW.out.mono hb2.size).trans (hb'.mono (Nat.le_trans hb2.size HBW.out.size)))⟩
      | true =>
        go_wp2_with (go_at_fn g; refine hcall.mono ?_; rintro e w' ⟨rfl, hb'⟩)
        go_roundw
        case rel => exact ⟨1, by omega, by go_num, ⟨hbr.out.trans (hb'.mono hbr.out.size)⟩, ⟨⟨fun _ => by simp, fun h => by omega, fun h => by omega⟩⟩⟩
        case measure => simp [intOf]
    · clear hx0 hx2
      have hbw : Below w1.heap.size w1 wr := HB3.out.trans (hbr.out.mono HB3.out.size)
      obtain ⟨v, hv1, g, lb, rfl, eg, hcall⟩ := letter_any (HL.out.below hbw) (fun x hx => let ⟨v, h1, h2⟩ := HG.out x hx; ⟨v, h1, h2.move (cell_below hbw)⟩) a1 (by rcases F1.out.2.1 with h | h | h | h | h | h <;> simp [h]) (fun h => by rcases F1.out.2.1 with e | e | e | e | e | e <;> (rw [e] at h; cases h)) i.a
      have hl : (Instr.lookup 227 (.map (some M)) (.int .u8 (((⟨#[a0, a1, a2]⟩ : ByteArray)[1]'(by show 1 < 3; decide)).toNat : Int)) false).run Try.prog wr = .ok (.func (.func g) #[] lb) wr := (HM.out.keep (hbw.block M HM.out.lt)).run_hit (keyLaw_int Try.underlying5) Try.underlying227 hv1
      rw [F2.out.2.1] at hcall
      have HBW := Fact.mk hbw
      clear hbw hv1
      cases g1 with
      | false =>
        go_wp2_with (go_at_fn g; refine hcall.mono ?_; rintro e w' ⟨rfl, hb'⟩)
        go_ret
        exact ⟨ret_bool (by cases g0 <;> rfl), hb2.trans ((HBW.out.mono hb2.size).trans (hb'.mono (Nat.le_trans hb2.size HBW.out.size)))⟩
      | true =>
        go_wp2_with (go_at_fn g; refine hcall.mono ?_; rintro e w' ⟨rfl, hb'⟩)
        go_roundw
        case rel => exact ⟨2, by omega, by go_num, ⟨hbr.out.trans (hb'.mono hbr.out.size)⟩, ⟨⟨fun _ => hgs.out.1 (by omega), fun _ => by simp, fun h => by omega⟩⟩⟩
        case measure => simp [intOf]
    · clear hx0 hx1
      have hbw : Below w1.heap.size w1 wr := HB3.out.trans (hbr.out.mono HB3.out.size)
      obtain ⟨v, hv1, g, lb, rfl, eg, hcall⟩ := letter_any (HL.out.below hbw) (fun x hx => let ⟨v, h1, h2⟩ := HG.out x hx; ⟨v, h1, h2.move (cell_below hbw)⟩) a2 (by rcases F1.out.2.2 with h | h | ⟨h, _⟩ <;> simp [h]) (fun h => pin_ok F1.out.2.2 h (hgs.out.2.1 (by omega)) F2.out.2.1) i.n
      have hl : (Instr.lookup 227 (.map (some M)) (.int .u8 (((⟨#[a0, a1, a2]⟩ : ByteArray)[2]'(by show 2 < 3; decide)).toNat : Int)) false).run Try.prog wr = .ok (.func (.func g) #[] lb) wr := (HM.out.keep (hbw.block M HM.out.lt)).run_hit (keyLaw_int Try.underlying5) Try.underlying227 hv1
      rw [F2.out.2.2] at hcall
      have HBW := Fact.mk hbw
      clear hbw hv1
      cases g2 with
      | false =>
        go_wp2_with (go_at_fn g; refine hcall.mono ?_; rintro e w' ⟨rfl, hb'⟩)
        go_ret
        exact ⟨ret_bool (by cases g0 <;> cases g1 <;> rfl), hb2.trans ((HBW.out.mono hb2.size).trans (hb'.mono (Nat.le_trans hb2.size HBW.out.size)))⟩
      | true =>
        go_wp2_with (go_at_fn g; refine hcall.mono ?_; rintro e w' ⟨rfl, hb'⟩)
        go_roundw
        case rel => exact ⟨3, by omega, by go_num, ⟨hbr.out.trans (hb'.mono hbr.out.size)⟩, ⟨⟨fun _ => hgs.out.1 (by omega), fun _ => hgs.out.2.1 (by omega), fun _ => by simp⟩⟩⟩
        case measure => simp [intOf]
    · clear hx0 hx1 hx2
      have e0 := hgs.out.1 (by omega)
      have e1 := hgs.out.2.1 (by omega)
      have e2 := hgs.out.2.2 (by omega)
      subst e0 e1 e2
      go_wp2
      go_ret
      exact ⟨rfl, hb2.trans ((HB3.out.mono hb2.size).trans (hbr.out.mono (Nat.le_trans hb2.size HB3.out.size)))⟩
theorem fits_any (c : GCode) (i : GIns) (vs bs is : Value) (w : World) (h : CodeRd w c vs bs is) (hw : i.Wf) (hn : (c.ins.length : Int) < 9223372036854775807) :
    Calls Try.prog 119 #[.agg #[.string c.name, vs, bs, is], .agg #[.int .u8 i.op, .int .u8 i.t, .int .i64 i.a, .int .i64 i.n]] w fun e w' => e = .returned (.bool (fitsB c i)) ∧ Below w.heap.size w w' := by
  rcases shape_cases i.op with h0 | ⟨a0, a1, a2, hs, h0, h1, h2⟩
  · have hf : fitsB c i = false := by simp [fitsB, h0]
    rw [hf]
    exact fits_no c i vs bs is w h hn h0
  · have hf : fitsB c i = (chk c i a0 i.t && chk c i a1 i.a && chk c i a2 i.n) := by simp [fitsB, hs]
    rw [hf]
    exact fits_yes c i vs bs is w h hw hn a0 a1 a2 hs h0 h1 h2 _ _ _ rfl rfl rfl
end Go.Proofs.Ytiogpainajokkaa

