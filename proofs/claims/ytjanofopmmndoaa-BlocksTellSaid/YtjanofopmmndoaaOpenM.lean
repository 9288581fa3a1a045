/- Slices that come in as arguments, opened to Lean data. -/
import Derived.Test.YtjanofopmmndoaaBaseM
import Derived.Lib.SmallJoins
import Derived.WalkKit
import Derived.ProofKit
import Derived.OpenShut
namespace Go.Proofs.Ytjanofopmmndoaa
open Go.RowKit Go.ChangeShapes Go.WideShapes Go.Deep Go.Joins
theorem pick_list {α : Type} {Q : Nat → α → Prop} (n : Nat) (h : ∀ i, i < n → ∃ a, Q i a) : ∃ l : List α, l.length = n ∧ ∀ i (hi : i < l.length), Q i l[i] := by
  induction n with
  | zero => exact ⟨[], rfl, fun i hi => absurd hi (by simp)⟩
  | succ n ih =>
    obtain ⟨l, hl, hq⟩ := ih (fun i hi => h i (by omega))
    obtain ⟨a, ha⟩ := h n (by omega)
    refine ⟨l ++ [a], by simp [hl], fun i hi => ?_⟩
    by_cases hlt : i < l.length
    · rw [List.getElem_append_left hlt]; exact hq i hlt
    · have hi' : i = l.length := by simp at hi; omega
      subst hi'
      subst hl
      simpa using ha
theorem spot_of_cell {w : World} {a : Addr} {v : Value} (h : w.cell? a = some v) : a.spot = none := by
  unfold World.cell? at h
  split at h
  · split at h
    · cases h
    · rename_i hs; simpa using hs
  · cases h
section
variable {H : Type} {enc : TypeId × Value → H} {P : Program} {w : World} {base : Nat} {spare : Nat → Bool} {held : Bool}
theorem open_rd {α : Type} {en : α → List Value} {k : Nat} {Good : α → Prop} {t e : TypeId} (ht : P.underlying t = some (.slice e)) (hk : P.cellsOf e = k) (hlen : ∀ a, (en a).length = k) (hpos : 0 < k)
    (hE : ∀ n cs x, DataW.trod enc P w base spare held n e cs = some x → ∃ a, cs = en a ∧ Good a)
    {fuel : Nat} {v : Value} {x : DataW H × List MemPlace} (h : DataW.trod enc P w base spare held fuel t [v] = some x) : ∃ xs : List α, Rd en k w v xs ∧ ∀ y ∈ xs, Good y := by
  rcases open_slice ht h with ⟨hc, _⟩ | ⟨a, len, cap, m, n, D, Pl, hc, hb, hl, hm, hmm, _, hi⟩
  · obtain rfl : v = .slice none 0 0 := by simpa using hc
    exact ⟨[], rd_nil _ _ _, by simp⟩
  · obtain rfl : v = .slice (some a) len cap := by simpa using hc
    obtain ⟨l, hll, hq⟩ := pick_list (Q := fun i g => Good g ∧ ∀ j u, (en g)[j]? = some u → w.cell? (a.add (i * k + j)) = some u) len (fun i hi' => by
      obtain ⟨cs', hcs, htr⟩ := hi i (by rw [hmm]; split <;> omega)
      obtain ⟨g, rfl, hg⟩ := hE _ _ _ htr
      obtain ⟨_, _, hat⟩ := World.cells?_some hcs
      refine ⟨g, hg, fun j u hu => ?_⟩
      have hj : j < P.cellsOf e := by rw [hk, ← hlen g]; exact (List.getElem?_eq_some_iff.1 hu).1
      rw [← hk, ← Go.Deep.add_add, hat j hj]
      exact hu)
    subst hll
    refine ⟨l, ⟨by simp only [maxLen] at hm; omega, some a, cap, rfl, hl, (fun h => by cases h), fun hp => ?_⟩, fun y hy => ?_⟩
    · have hs : a.spot = none := by
        have h0 : 0 < (en l[0]).length := by rw [hlen]; exact hpos
        have := (hq 0 hp).2 0 _ (List.getElem?_eq_getElem h0)
        exact spot_of_cell (by simpa [Addr.add] using this)
      obtain ⟨b, off, sp⟩ := a
      subst hs
      refine ⟨b, off, rfl, fun j hj i u hu => ?_⟩
      have := (hq j hj).2 i u hu
      rwa [Go.WideShapes.add_plain, ← Nat.add_assoc] at this
    · obtain ⟨i, hi', rfl⟩ := List.getElem_of_mem hy
      exact (hq i hi').1
end
theorem wf_u8 {n : Int} (h : (Lit.int .u8 n).wf = true) : 0 ≤ n ∧ n ≤ 255 := by simpa [Lit.wf, IntKind.min, IntKind.max, IntKind.bits, IntKind.signed] using h
theorem wf_i64 {n : Int} (h : (Lit.int .i64 n).wf = true) : -9223372036854775808 ≤ n ∧ n ≤ 9223372036854775807 := by simpa [Lit.wf, IntKind.min, IntKind.max, IntKind.bits, IntKind.signed] using h
end Go.Proofs.Ytjanofopmmndoaa

namespace Go.Proofs.Ytjanofopmmndoaa
open Go.RowKit Go.ChangeShapes Go.WideShapes Go.Deep Go.Joins
theorem list10 {α : Type} {l : List α} (h : l.length = 10) : ∃ a b c d e f g i j k, l = [a, b, c, d, e, f, g, i, j, k] := by
  match l, h with
  | [a, b, c, d, e, f, g, i, j, k], _ => exact ⟨a, b, c, d, e, f, g, i, j, k, rfl⟩
theorem some_at {α : Type} {o : Option α} {xs : List α} {i : Nat} (h : o = xs[i]?) (hl : i < xs.length) : ∃ y, o = some y := ⟨xs[i], by rw [h, List.getElem?_eq_getElem hl]⟩
section
variable {H : Type} {enc : TypeId × Value → H} {w : World} {base : Nat} {spare : Nat → Bool} {held : Bool}
theorem open_blk_cells {fuel : Nat} {cs : List Value} {x : DataW H × List MemPlace} (h : DataW.trod enc Try.prog w base spare held fuel 25 cs = some x) : ∃ b : GBlock, cs = encBlk b ∧ b.Wf := by
  obtain ⟨xs, n, _, _, hl, hx, hi⟩ := DataW.trod_struct Try.underlying25 h
  have hC : Try.prog.cellsOf 25 = 10 := by kernel_rfl
  obtain ⟨c0, c1, c2, c3, c4, c5, c6, c7, c8, c9, rfl⟩ := list10 (hl.trans hC)
  have hx9 : xs.length = 9 := hx
  have k0 : Try.prog.cellsOf 22 = 1 := by kernel_rfl
  have k1 : Try.prog.cellsOf 23 = 2 := by kernel_rfl
  have k2 : Try.prog.cellsOf 4 = 1 := by kernel_rfl
  have k3 : Try.prog.cellsOf 2 = 1 := by kernel_rfl
  obtain ⟨y0, h0⟩ := some_at (hi 0 _ rfl) (by omega)
  obtain ⟨y1, h1⟩ := some_at (hi 1 _ rfl) (by omega)
  obtain ⟨y2, h2⟩ := some_at (hi 2 _ rfl) (by omega)
  obtain ⟨y3, h3⟩ := some_at (hi 3 _ rfl) (by omega)
  obtain ⟨y4, h4⟩ := some_at (hi 4 _ rfl) (by omega)
  obtain ⟨y5, h5⟩ := some_at (hi 5 _ rfl) (by omega)
  obtain ⟨y6, h6⟩ := some_at (hi 6 _ rfl) (by omega)
  obtain ⟨y7, h7⟩ := some_at (hi 7 _ rfl) (by omega)
  obtain ⟨y8, h8⟩ := some_at (hi 8 _ rfl) (by omega)
  have H0 := (congrArg (fun n => DataW.trod enc Try.prog w base spare held _ 22 (([c0, c1, c2, c3, c4, c5, c6, c7, c8, c9].drop 0).take n)) k0).symm.trans h0
  have H1 := (congrArg (fun n => DataW.trod enc Try.prog w base spare held _ 23 (([c0, c1, c2, c3, c4, c5, c6, c7, c8, c9].drop 1).take n)) k1).symm.trans h1
  have H2 := (congrArg (fun n => DataW.trod enc Try.prog w base spare held _ 4 (([c0, c1, c2, c3, c4, c5, c6, c7, c8, c9].drop 3).take n)) k2).symm.trans h2
  have H3 := (congrArg (fun n => DataW.trod enc Try.prog w base spare held _ 4 (([c0, c1, c2, c3, c4, c5, c6, c7, c8, c9].drop 4).take n)) k2).symm.trans h3
  have H4 := (congrArg (fun n => DataW.trod enc Try.prog w base spare held _ 2 (([c0, c1, c2, c3, c4, c5, c6, c7, c8, c9].drop 5).take n)) k3).symm.trans h4
  have H5 := (congrArg (fun n => DataW.trod enc Try.prog w base spare held _ 2 (([c0, c1, c2, c3, c4, c5, c6, c7, c8, c9].drop 6).take n)) k3).symm.trans h5
  have H6 := (congrArg (fun n => DataW.trod enc Try.prog w base spare held _ 2 (([c0, c1, c2, c3, c4, c5, c6, c7, c8, c9].drop 7).take n)) k3).symm.trans h6
  have H7 := (congrArg (fun n => DataW.trod enc Try.prog w base spare held _ 4 (([c0, c1, c2, c3, c4, c5, c6, c7, c8, c9].drop 8).take n)) k2).symm.trans h7
  have H8 := (congrArg (fun n => DataW.trod enc Try.prog w base spare held _ 4 (([c0, c1, c2, c3, c4, c5, c6, c7, c8, c9].drop 9).take n)) k2).symm.trans h8
  obtain ⟨n0, e0, _, w0⟩ := DataW.trod_int Try.underlying22 H0
  obtain ⟨zs, m, _, _, _, hz, hzi⟩ := DataW.trod_array Try.underlying23 H1
  obtain ⟨z0, g0⟩ := some_at (hzi 0 (by decide)) (by omega)
  obtain ⟨z1, g1⟩ := some_at (hzi 1 (by decide)) (by omega)
  simp only [k2] at g0 g1
  obtain ⟨a0, f0, _⟩ := DataW.trod_bool Try.underlying4 g0
  obtain ⟨a1, f1, _⟩ := DataW.trod_bool Try.underlying4 g1
  obtain ⟨a2, e2, _⟩ := DataW.trod_bool Try.underlying4 H2
  obtain ⟨a3, e3, _⟩ := DataW.trod_bool Try.underlying4 H3
  obtain ⟨n4, e4, _, w4⟩ := DataW.trod_int Try.underlying2 H4
  obtain ⟨n5, e5, _, w5⟩ := DataW.trod_int Try.underlying2 H5
  obtain ⟨n6, e6, _, w6⟩ := DataW.trod_int Try.underlying2 H6
  obtain ⟨a7, e7, _⟩ := DataW.trod_bool Try.underlying4 H7
  obtain ⟨a8, e8, _⟩ := DataW.trod_bool Try.underlying4 H8
  have E0 : c0 = .int .u8 n0 := by simpa using e0
  have F0 : c1 = .bool a0 := by simpa using f0
  have F1 : c2 = .bool a1 := by simpa using f1
  have E2 : c3 = .bool a2 := by simpa using e2
  have E3 : c4 = .bool a3 := by simpa using e3
  have E4 : c5 = .int .i64 n4 := by simpa using e4
  have E5 : c6 = .int .i64 n5 := by simpa using e5
  have E6 : c7 = .int .i64 n6 := by simpa using e6
  have E7 : c8 = .bool a7 := by simpa using e7
  have E8 : c9 = .bool a8 := by simpa using e8
  exact ⟨⟨n0, a0, a1, a2, a3, n4, n5, n6, a7, a8⟩, by rw [E0, F0, F1, E2, E3, E4, E5, E6, E7, E8]; rfl, wf_u8 w0, wf_i64 w4, wf_i64 w5, wf_i64 w6⟩
theorem open_blk {r : Reach} {b0 : Nat} {v : Value} {d : DataW H} {p : List MemPlace} (hv : Value.okWide Try.prog w r b0 25 v) (h : DataW.Trod enc Try.prog w base spare held 25 v d p) : ∃ b : GBlock, v = vBlk b ∧ b.Wf := by
  obtain ⟨cs, rfl, hsz⟩ := okWide_struct Try.underlying25 hv
  obtain ⟨fuel, hf⟩ := h
  obtain ⟨b, hb, hw⟩ := open_blk_cells (cs := cs.toList) (by simpa [Value.cells] using hf)
  refine ⟨b, ?_, hw⟩
  have : cs = (encBlk b).toArray := by rw [← hb]
  rw [this]; rfl
def encGo (a : Value × Int) : List Value := [a.1, .int .u16 a.2]
theorem encGo_len (a : Value × Int) : (encGo a).length = 2 := rfl
/-- What a run that comes in is good for: its inputs read, its ticks are such. -/
def GoOk (w : World) (a : Value × Int) : Prop := (∃ xs, Rd oneI64 1 w a.1 xs) ∧ 0 ≤ a.2 ∧ a.2 ≤ 65535
theorem open_i64_el (n : Nat) (cs : List Value) (x : DataW H × List MemPlace) (h : DataW.trod enc Try.prog w base spare held n 2 cs = some x) : ∃ a : Int, cs = oneI64 a ∧ True := by
  obtain ⟨n0, rfl, _, _⟩ := DataW.trod_int Try.underlying2 h
  exact ⟨n0, rfl, trivial⟩
theorem open_go_el (n : Nat) (cs : List Value) (x : DataW H × List MemPlace) (h : DataW.trod enc Try.prog w base spare held n 36 cs = some x) : ∃ a : Value × Int, cs = encGo a ∧ GoOk w a := by
  obtain ⟨xs, m, _, _, hl, hx, hi⟩ := DataW.trod_struct Try.underlying36 h
  have hC : Try.prog.cellsOf 36 = 2 := by kernel_rfl
  obtain ⟨c0, c1, rfl⟩ : ∃ a b, cs = [a, b] := by
    match cs, hl.trans hC with
    | [a, b], _ => exact ⟨a, b, rfl⟩
  have hx2 : xs.length = 2 := hx
  have k0 : Try.prog.cellsOf 32 = 1 := by kernel_rfl
  have k1 : Try.prog.cellsOf 34 = 1 := by kernel_rfl
  obtain ⟨y0, h0⟩ := some_at (hi 0 _ rfl) (by omega)
  obtain ⟨y1, h1⟩ := some_at (hi 1 _ rfl) (by omega)
  have H0 := (congrArg (fun n => DataW.trod enc Try.prog w base spare held _ 32 (([c0, c1].drop 0).take n)) k0).symm.trans h0
  have H1 := (congrArg (fun n => DataW.trod enc Try.prog w base spare held _ 34 (([c0, c1].drop 1).take n)) k1).symm.trans h1
  obtain ⟨n1, e1, _, w1⟩ := DataW.trod_int Try.underlying34 H1
  have E1 : c1 = .int .u16 n1 := by simpa using e1
  obtain ⟨ys, hr, _⟩ := open_rd (en := oneI64) Try.underlying32 (by kernel_rfl) oneI64_len (by decide) open_i64_el (v := c0) H0
  have hb : 0 ≤ n1 ∧ n1 ≤ 65535 := by simpa [Lit.wf, IntKind.min, IntKind.max, IntKind.bits, IntKind.signed] using w1
  exact ⟨(c0, n1), by rw [E1]; rfl, ⟨ys, hr⟩, hb.1, hb.2⟩
end
end Go.Proofs.Ytjanofopmmndoaa

