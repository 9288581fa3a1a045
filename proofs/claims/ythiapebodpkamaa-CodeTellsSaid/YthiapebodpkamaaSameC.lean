/- Contract of Same: are two programs one? Printed by gen_same.py. -/
import Derived.Test.YthiapebodpkamaaData
import Derived.Test.YthiapebodpkamaaProg
import Derived.Deep.QuietTactic
import Derived.BigQuiet
import Derived.Deep.DeepCutAuto
import Derived.Deep.CutBlock
namespace Go.Proofs.Ythiapebodpkamaa
open Go.RowKit
theorem sc_row4 {w : World} {g : Nat} {a b c d : Value} {T : TypeId} (h : w.heap[g]? = some (.cells #[a, b, c, d] T (0, 0))) : w.cell? ⟨g, 0, none⟩ = some a ∧ w.cell? ⟨g, 1, none⟩ = some b ∧ w.cell? ⟨g, 2, none⟩ = some c ∧ w.cell? ⟨g, 3, none⟩ = some d :=
  ⟨by rw [cell_of_row _ _ 0 _ _ _ h]; rfl, by rw [cell_of_row _ _ 1 _ _ _ h]; rfl, by rw [cell_of_row _ _ 2 _ _ _ h]; rfl, by rw [cell_of_row _ _ 3 _ _ _ h]; rfl⟩
theorem rd_cell4 {α : Type} {enc : α → List Value} {w : World} {A : Option Addr} {n c : Nat} {xs : List α} (h : Rd enc 4 w (.slice A n c) xs) (k : Nat) (hk : k < xs.length) : ∃ b off, A = some ⟨b, off, none⟩ ∧ ∀ i u, (enc xs[k])[i]? = some u → w.cell? ⟨b, off + k * 4 + i, none⟩ = some u := by
  obtain ⟨_, A', c', e, _, _, hc⟩ := h
  cases e
  obtain ⟨b, off, e, hc2⟩ := hc (by omega)
  exact ⟨b, off, e, hc2 k hk⟩
theorem rd_cell1 {w : World} {A : Option Addr} {n c : Nat} {xs : List Int} (h : Rd oneU8 1 w (.slice A n c) xs) (k : Nat) (hk : k < xs.length) : ∃ b off, A = some ⟨b, off, none⟩ ∧ w.cell? ⟨b, off + k, none⟩ = some (.int .u8 xs[k]) := by
  obtain ⟨_, A', c', e, _, _, hc⟩ := h
  cases e
  obtain ⟨b, off, e, hc2⟩ := hc (by omega)
  have := hc2 k hk 0 _ rfl
  rw [show off + k * 1 + 0 = off + k by omega] at this
  exact ⟨b, off, e, this⟩
theorem take_eq {α : Type} {xs ys : List α} {k : Nat} (hx : k < xs.length) (hy : k < ys.length) (h : xs.take k = ys.take k) (e : xs[k] = ys[k]) : xs.take (k + 1) = ys.take (k + 1) := by
  rw [List.take_succ_eq_append_getElem hx, List.take_succ_eq_append_getElem hy, h, e]
theorem take_whole {α : Type} {xs ys : List α} {k : Nat} (hx : xs.length = k) (hy : ys.length = k) (h : xs.take k = ys.take k) : xs = ys := by
  subst hx
  rw [List.take_length, ← hy, List.take_length] at h
  exact h
theorem sc_name {a b : ByteArray} (h : a.toList = b.toList) : a = b := by
  apply ByteArray.ext
  apply Array.ext'
  rw [← ByteArray.toList_eq, ← ByteArray.toList_eq, h]
set_option maxRecDepth 100000 in
theorem eq_varT (x : GVar) (w : World) : (Op.equalIn 10000 41 (.agg #[.string x.name, .int .u8 x.cls, .int .u8 x.ty, .int .i64 x.first]) (.agg #[.string x.name, .int .u8 x.cls, .int .u8 x.ty, .int .i64 x.first])).run Try.prog w = .ok true w := by
  go_simp
set_option maxRecDepth 100000 in
theorem eq_varF {x y : GVar} (h : x ≠ y) (w : World) : (Op.equalIn 10000 41 (.agg #[.string x.name, .int .u8 x.cls, .int .u8 x.ty, .int .i64 x.first]) (.agg #[.string y.name, .int .u8 y.cls, .int .u8 y.ty, .int .i64 y.first])).run Try.prog w = .ok false w := by
  have h2 : ¬ (x.name.toList = y.name.toList ∧ x.cls = y.cls ∧ x.ty = y.ty ∧ x.first = y.first) := by
    rintro ⟨e1, e2, e3, e4⟩
    apply h
    obtain ⟨a1, a2, a3, a4⟩ := x
    obtain ⟨b1, b2, b3, b4⟩ := y
    have := sc_name e1
    simp only at this e2 e3 e4
    rw [this, e2, e3, e4]
  clear h
  by_cases e1 : x.name.toList = y.name.toList
  · by_cases e2 : x.cls = y.cls
    · by_cases e3 : x.ty = y.ty
      · by_cases e4 : x.first = y.first
        · exact absurd ⟨e1, e2, e3, e4⟩ h2
        · clear h2
          go_simp
      · clear h2
        go_simp
    · clear h2
      go_simp
  · clear h2
    go_simp
set_option maxRecDepth 100000 in
theorem eq_insT (x : GIns) (w : World) : (Op.equalIn 10000 38 (.agg #[.int .u8 x.op, .int .u8 x.t, .int .i64 x.a, .int .i64 x.n]) (.agg #[.int .u8 x.op, .int .u8 x.t, .int .i64 x.a, .int .i64 x.n])).run Try.prog w = .ok true w := by
  go_simp
set_option maxRecDepth 100000 in
theorem eq_insF {x y : GIns} (h : x ≠ y) (w : World) : (Op.equalIn 10000 38 (.agg #[.int .u8 x.op, .int .u8 x.t, .int .i64 x.a, .int .i64 x.n]) (.agg #[.int .u8 y.op, .int .u8 y.t, .int .i64 y.a, .int .i64 y.n])).run Try.prog w = .ok false w := by
  have h2 : ¬ (x.op = y.op ∧ x.t = y.t ∧ x.a = y.a ∧ x.n = y.n) := by
    rintro ⟨e1, e2, e3, e4⟩
    apply h
    obtain ⟨a1, a2, a3, a4⟩ := x
    obtain ⟨b1, b2, b3, b4⟩ := y
    simp only at e1 e2 e3 e4
    rw [e1, e2, e3, e4]
  clear h
  by_cases e1 : x.op = y.op
  · by_cases e2 : x.t = y.t
    · by_cases e3 : x.a = y.a
      · by_cases e4 : x.n = y.n
        · exact absurd ⟨e1, e2, e3, e4⟩ h2
        · clear h2
          go_simp
      · clear h2
        go_simp
    · clear h2
      go_simp
  · clear h2
    go_simp
theorem sc_whole {c d : GCode} {n : ByteArray} (hn : c.name = n ∧ d.name = n) (h1 : c.vars = d.vars) (h2 : c.blocks = d.blocks) (h3 : c.ins = d.ins) : c = d := by
  obtain ⟨a1, a2, a3, a4⟩ := c
  obtain ⟨b1, b2, b3, b4⟩ := d
  obtain ⟨e1, e2⟩ := hn
  simp only at e1 e2 h1 h2 h3
  subst e1 h1 h2 h3
  rw [e2]
theorem sc_false {r : Bool} {p : Prop} (h : r = true ↔ p) (hp : ¬ p) : r = false := by
  cases r with
  | false => rfl
  | true => exact absurd (h.1 rfl) hp
theorem below_dnS {B : Nat} {w w' : World} (h : Below B w w') (n : Nat) : Below B w (w'.drewN n) := ⟨h.os, h.tape, h.output, h.size, fun i hi => h.block i hi⟩
set_option maxHeartbeats 8000000 in
set_option maxRecDepth 100000 in
theorem sameC_any (c d : GCode) (vs bs is vs2 bs2 is2 : Value) (w : World) (h : CodeRd w c vs bs is) (h2 : CodeRd w d vs2 bs2 is2) (r : Bool) (hr : r = true ↔ c = d) :
    Calls Try.prog 35 #[.agg #[.string c.name, vs, bs, is], .agg #[.string d.name, vs2, bs2, is2]] w fun e w' => e = .returned (.bool r) ∧ Below w.heap.size w w' := by
  obtain ⟨A1, q1, c1, rfl, hq1⟩ : ∃ A q c', vs = .slice A q c' ∧ c.vars.length = q := by obtain ⟨_, A, c', h, _⟩ := h.vars; exact ⟨A, _, c', h, rfl⟩
  obtain ⟨A2, q2, c2, rfl, hq2⟩ : ∃ A q c', bs = .slice A q c' ∧ c.blocks.length = q := by obtain ⟨_, A, c', h, _⟩ := h.blocks; exact ⟨A, _, c', h, rfl⟩
  obtain ⟨A3, q3, c3, rfl, hq3⟩ : ∃ A q c', is = .slice A q c' ∧ c.ins.length = q := by obtain ⟨_, A, c', h, _⟩ := h.ins; exact ⟨A, _, c', h, rfl⟩
  obtain ⟨D1, p1, d1, rfl, hp1⟩ : ∃ A q c', vs2 = .slice A q c' ∧ d.vars.length = q := by obtain ⟨_, A, c', h, _⟩ := h2.vars; exact ⟨A, _, c', h, rfl⟩
  obtain ⟨D2, p2, d2, rfl, hp2⟩ : ∃ A q c', bs2 = .slice A q c' ∧ d.blocks.length = q := by obtain ⟨_, A, c', h, _⟩ := h2.blocks; exact ⟨A, _, c', h, rfl⟩
  obtain ⟨D3, p3, d3, rfl, hp3⟩ : ∃ A q c', is2 = .slice A q c' ∧ d.ins.length = q := by obtain ⟨_, A, c', h, _⟩ := h2.ins; exact ⟨A, _, c', h, rfl⟩
  have B0 := Fact.mk (two_blocks w (.cells #[.string c.name, .slice A1 q1 c1, .slice A2 q2 c2, .slice A3 q3 c3] 32) (.cells #[.string d.name, .slice D1 p1 d1, .slice D2 p2 d2, .slice D3 p3 d3] 32))
  have H := Fact.mk (h.below B0.out.1)
  have H2 := Fact.mk (h2.below B0.out.1)
  have m1 : q1 ≤ 9223372036854775807 := by rw [← hq1]; exact h.vars.1
  have m2 : q2 ≤ 9223372036854775807 := by rw [← hq2]; exact h.blocks.1
  have m3 : q3 ≤ 9223372036854775807 := by rw [← hq3]; exact h.ins.1
  have HR := Fact.mk hr
  obtain ⟨k0, k1, k2, k3⟩ := sc_row4 B0.out.2.1
  obtain ⟨j0, j1, j2, j3⟩ := sc_row4 B0.out.2.2.1
  obtain ⟨nc, hnc⟩ : ∃ n, c.name = n := ⟨_, rfl⟩
  obtain ⟨nd, hnd⟩ : ∃ n, d.name = n := ⟨_, rfl⟩
  rw [hnc, hnd]
  rw [hnc, hnd] at B0 H H2 k0 k1 k2 k3 j0 j1 j2 j3
  have HN := Fact.mk (And.intro hnc hnd)
  have HQ := Fact.mk (And.intro hq1 (And.intro hq2 hq3))
  have HP := Fact.mk (And.intro hp1 (And.intro hp2 hp3))
  have BW := Fact.mk B0.out.1
  clear h h2 hr hq1 hq2 hq3 hp1 hp2 hp3 hnc hnd B0
  go_enter Try.func35, Try.ntmps35
  go_upto_region 1 with (fail)
  generalize (w.alloc (.cells #[.string nc, .slice A1 q1 c1, .slice A2 q2 c2, .slice A3 q3 c3] 32)).alloc (.cells #[.string nd, .slice D1 p1 d1, .slice D2 p2 d2, .slice D3 p3 d3] 32) = W0 at *
  by_cases hn : nc = nd
  · subst hn
    by_cases g1 : q1 = p1
    · subst g1
      by_cases g2 : q2 = p2
      · subst g2
        by_cases g3 : q3 = p3
        · subst g3
          have e1 : ((q1 : Int) != (q1 : Int)) = false := bne_self_eq_false _
          have e2 : ((q2 : Int) != (q2 : Int)) = false := bne_self_eq_false _
          have e3 : ((q3 : Int) != (q3 : Int)) = false := bne_self_eq_false _
          go_upto_region 3 with (fail)
          clear e1 e2 e3
          go_wp2_with fail
          go_loopw [43] (fun i wr => ∃ k q : Nat, k ≤ q1 ∧ i = .int .i64 k ∧ wr = W0.drewN q ∧ Fact (c.vars.take k = d.vars.take k)) (fun i _ => q1 - (intOf i).toNat)
          case atStart => exact ⟨0, 0, Nat.zero_le _, rfl, rfl, ⟨rfl⟩⟩
          case round =>
            obtain ⟨k, n1, hk, rfl, rfl, hB⟩ := hrel
            by_cases hlt : k < q1
            · obtain ⟨b1, o1, rfl, hx⟩ := rd_cell4 H.out.vars k (by rw [HQ.out.1]; exact hlt)
              obtain ⟨b2, o2, rfl, hy⟩ := rd_cell4 H2.out.vars k (by rw [HP.out.1]; exact hlt)
              obtain ⟨x, hxx⟩ : ∃ x, c.vars[k]'(by rw [HQ.out.1]; exact hlt) = x := ⟨_, rfl⟩
              obtain ⟨y, hyy⟩ : ∃ y, d.vars[k]'(by rw [HP.out.1]; exact hlt) = y := ⟨_, rfl⟩
              rw [hxx] at hx
              rw [hyy] at hy
              have x0 : W0.cell? ⟨b1, o1 + k * 4, none⟩ = some (.string x.name) := hx 0 _ rfl
              have x1 : W0.cell? ⟨b1, o1 + k * 4 + 1, none⟩ = some (.int .u8 x.cls) := hx 1 _ rfl
              have x2 : W0.cell? ⟨b1, o1 + k * 4 + 2, none⟩ = some (.int .u8 x.ty) := hx 2 _ rfl
              have x3 : W0.cell? ⟨b1, o1 + k * 4 + 3, none⟩ = some (.int .i64 x.first) := hx 3 _ rfl
              have y0 : W0.cell? ⟨b2, o2 + k * 4, none⟩ = some (.string y.name) := hy 0 _ rfl
              have y1 : W0.cell? ⟨b2, o2 + k * 4 + 1, none⟩ = some (.int .u8 y.cls) := hy 1 _ rfl
              have y2 : W0.cell? ⟨b2, o2 + k * 4 + 2, none⟩ = some (.int .u8 y.ty) := hy 2 _ rfl
              have y3 : W0.cell? ⟨b2, o2 + k * 4 + 3, none⟩ = some (.int .i64 y.first) := hy 3 _ rfl
              clear hx hy
              have i1 : (k : Int) < (q1 : Int) := by omega
              have HX := Fact.mk (And.intro hxx hyy)
              clear hxx hyy
              by_cases hne : x = y
              · subst hne
                have EQ := eq_varT x
                go_wp2_with fail
                go_quiet (fail)
                clear EQ
                clear i1
                go_wp2_with fail
                go_roundw
                case rel => exact ⟨k + 1, _, by omega, by go_num, rfl, ⟨take_eq (by rw [HQ.out.1]; exact hlt) (by rw [HP.out.1]; exact hlt) hB.out (by rw [HX.out.1, HX.out.2])⟩⟩
                case measure => simp [intOf]; omega
              · have EQ := eq_varF hne
                go_wp2_with fail
                go_quiet (fail)
                clear EQ
                have hR := sc_false HR.out (fun e => hne (by rw [← HX.out.1, ← HX.out.2]; subst e; rfl))
                subst hR
                clear i1
                go_wp2_with fail
                go_ret
                exact ⟨rfl, below_dnS (below_dnS BW.out _) _⟩
            · obtain rfl : k = q1 := by omega
              have hE1 := take_whole HQ.out.1 HP.out.1 hB.out
              have HE1 := Fact.mk hE1
              clear hE1 hB
              go_wp2_with fail
              go_loopw [61] (fun i wr => ∃ k q : Nat, k ≤ q2 ∧ i = .int .i64 k ∧ wr = W0.drewN q ∧ Fact (c.blocks.take k = d.blocks.take k)) (fun i _ => q2 - (intOf i).toNat)
              case atStart => exact ⟨0, n1, Nat.zero_le _, rfl, rfl, ⟨rfl⟩⟩
              case round =>
                obtain ⟨k, n2, hk, rfl, rfl, hB⟩ := hrel
                by_cases hlt : k < q2
                · obtain ⟨b1, o1, rfl, x0⟩ := rd_cell1 H.out.blocks k (by rw [HQ.out.2.1]; exact hlt)
                  obtain ⟨b2, o2, rfl, y0⟩ := rd_cell1 H2.out.blocks k (by rw [HP.out.2.1]; exact hlt)
                  obtain ⟨x, hxx⟩ : ∃ x, c.blocks[k]'(by rw [HQ.out.2.1]; exact hlt) = x := ⟨_, rfl⟩
                  obtain ⟨y, hyy⟩ : ∃ y, d.blocks[k]'(by rw [HP.out.2.1]; exact hlt) = y := ⟨_, rfl⟩
                  rw [hxx] at x0
                  rw [hyy] at y0
                  have i1 : (k : Int) < (q2 : Int) := by omega
                  have HX := Fact.mk (And.intro hxx hyy)
                  clear hxx hyy
                  by_cases hne : x = y
                  · subst hne
                    have e1 : (x != x) = false := bne_self_eq_false _
                    go_wp2_with fail
                    go_quiet (fail)
                    clear i1
                    go_wp2_with fail
                    go_roundw
                    case rel => exact ⟨k + 1, _, by omega, by go_num, rfl, ⟨take_eq (by rw [HQ.out.2.1]; exact hlt) (by rw [HP.out.2.1]; exact hlt) hB.out (by rw [HX.out.1, HX.out.2])⟩⟩
                    case measure => simp [intOf]; omega
                  · have e1 : (x != y) = true := bne_iff_ne.2 hne
                    go_wp2_with fail
                    go_quiet (fail)
                    have hR := sc_false HR.out (fun e => hne (by rw [← HX.out.1, ← HX.out.2]; subst e; rfl))
                    subst hR
                    clear i1
                    go_wp2_with fail
                    go_ret
                    exact ⟨rfl, below_dnS (below_dnS BW.out _) _⟩
                · obtain rfl : k = q2 := by omega
                  have hE2 := take_whole HQ.out.2.1 HP.out.2.1 hB.out
                  have HE2 := Fact.mk hE2
                  clear hE2 hB
                  go_wp2_with fail
                  go_loopw [79] (fun i wr => ∃ k q : Nat, k ≤ q3 ∧ i = .int .i64 k ∧ wr = W0.drewN q ∧ Fact (c.ins.take k = d.ins.take k)) (fun i _ => q3 - (intOf i).toNat)
                  case atStart => exact ⟨0, n2, Nat.zero_le _, rfl, rfl, ⟨rfl⟩⟩
                  case round =>
                    obtain ⟨k, n3, hk, rfl, rfl, hB⟩ := hrel
                    by_cases hlt : k < q3
                    · obtain ⟨b1, o1, rfl, hx⟩ := rd_cell4 H.out.ins k (by rw [HQ.out.2.2]; exact hlt)
                      obtain ⟨b2, o2, rfl, hy⟩ := rd_cell4 H2.out.ins k (by rw [HP.out.2.2]; exact hlt)
                      obtain ⟨x, hxx⟩ : ∃ x, c.ins[k]'(by rw [HQ.out.2.2]; exact hlt) = x := ⟨_, rfl⟩
                      obtain ⟨y, hyy⟩ : ∃ y, d.ins[k]'(by rw [HP.out.2.2]; exact hlt) = y := ⟨_, rfl⟩
                      rw [hxx] at hx
                      rw [hyy] at hy
                      have x0 : W0.cell? ⟨b1, o1 + k * 4, none⟩ = some (.int .u8 x.op) := hx 0 _ rfl
                      have x1 : W0.cell? ⟨b1, o1 + k * 4 + 1, none⟩ = some (.int .u8 x.t) := hx 1 _ rfl
                      have x2 : W0.cell? ⟨b1, o1 + k * 4 + 2, none⟩ = some (.int .i64 x.a) := hx 2 _ rfl
                      have x3 : W0.cell? ⟨b1, o1 + k * 4 + 3, none⟩ = some (.int .i64 x.n) := hx 3 _ rfl
                      have y0 : W0.cell? ⟨b2, o2 + k * 4, none⟩ = some (.int .u8 y.op) := hy 0 _ rfl
                      have y1 : W0.cell? ⟨b2, o2 + k * 4 + 1, none⟩ = some (.int .u8 y.t) := hy 1 _ rfl
                      have y2 : W0.cell? ⟨b2, o2 + k * 4 + 2, none⟩ = some (.int .i64 y.a) := hy 2 _ rfl
                      have y3 : W0.cell? ⟨b2, o2 + k * 4 + 3, none⟩ = some (.int .i64 y.n) := hy 3 _ rfl
                      clear hx hy
                      have i1 : (k : Int) < (q3 : Int) := by omega
                      have HX := Fact.mk (And.intro hxx hyy)
                      clear hxx hyy
                      by_cases hne : x = y
                      · subst hne
                        have EQ := eq_insT x
                        go_wp2_with fail
                        go_quiet (fail)
                        clear EQ
                        clear i1
                        go_wp2_with fail
                        go_roundw
                        case rel => exact ⟨k + 1, _, by omega, by go_num, rfl, ⟨take_eq (by rw [HQ.out.2.2]; exact hlt) (by rw [HP.out.2.2]; exact hlt) hB.out (by rw [HX.out.1, HX.out.2])⟩⟩
                        case measure => simp [intOf]; omega
                      · have EQ := eq_insF hne
                        go_wp2_with fail
                        go_quiet (fail)
                        clear EQ
                        have hR := sc_false HR.out (fun e => hne (by rw [← HX.out.1, ← HX.out.2]; subst e; rfl))
                        subst hR
                        clear i1
                        go_wp2_with fail
                        go_ret
                        exact ⟨rfl, below_dnS (below_dnS BW.out _) _⟩
                    · obtain rfl : k = q3 := by omega
                      have hE3 := take_whole HQ.out.2.2 HP.out.2.2 hB.out
                      have HE3 := Fact.mk hE3
                      clear hE3 hB
                      go_wp2_with fail
                      have hR : r = true := HR.out.2 (sc_whole HN.out HE1.out HE2.out HE3.out)
                      subst hR
                      go_ret
                      exact ⟨rfl, below_dnS BW.out _⟩
        · have e1 : ((q1 : Int) != (q1 : Int)) = false := bne_self_eq_false _
          have e2 : ((q2 : Int) != (q2 : Int)) = false := bne_self_eq_false _
          have e3 : ((q3 : Int) != (p3 : Int)) = true := bne_iff_ne.2 (by omega)
          have hR := sc_false HR.out (fun e => g3 (by rw [← HQ.out.2.2, ← HP.out.2.2, e]))
          subst hR
          go_wp2
          go_ret
          exact ⟨rfl, BW.out⟩
      · have e1 : ((q1 : Int) != (q1 : Int)) = false := bne_self_eq_false _
        have e2 : ((q2 : Int) != (p2 : Int)) = true := bne_iff_ne.2 (by omega)
        have hR := sc_false HR.out (fun e => g2 (by rw [← HQ.out.2.1, ← HP.out.2.1, e]))
        subst hR
        go_wp2
        go_ret
        exact ⟨rfl, BW.out⟩
    · have e1 : ((q1 : Int) != (p1 : Int)) = true := bne_iff_ne.2 (by omega)
      have hR := sc_false HR.out (fun e => g1 (by rw [← HQ.out.1, ← HP.out.1, e]))
      subst hR
      go_wp2
      go_ret
      exact ⟨rfl, BW.out⟩
  · have hR := sc_false HR.out (fun e => hn (by rw [← HN.out.1, ← HN.out.2, e]))
    subst hR
    have e1 : ¬ nc.toList = nd.toList := fun e => hn (sc_name e)
    go_wp2
    go_ret
    exact ⟨rfl, BW.out⟩
end Go.Proofs.Ythiapebodpkamaa

