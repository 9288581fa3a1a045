/- How a checker and its places lie in memory. -/
import Derived.Test.YthiapebodpkamaaEffA
namespace Go.Proofs.Ythiapebodpkamaa
open Go.RowKit
def encSp (x : GSpot × Value) : List Value := [.bool x.1.reached, x.2, .int .i64 x.1.steps]
theorem encSp_len (x : GSpot × Value) : (encSp x).length = 3 := rfl
/-- The places of ss lie in the block S, each with a stack that can be read. -/
def Places (w : World) (S : Nat) (ss : List GSpot) : Prop := ∃ xs : List (GSpot × Value), xs.map (·.1) = ss ∧ w.heap[S]? = some (.cells (xs.flatMap encSp).toArray 52 (0, 0)) ∧ ∀ x ∈ xs, Rd oneU8 1 w x.2 x.1.stack ∧ x.2.ownBlock ≠ some S
theorem Places.lt {w : World} {S : Nat} {ss : List GSpot} (h : Places w S ss) : S < w.heap.size := by
  obtain ⟨_, _, h, _⟩ := h
  exact (Array.getElem?_eq_some_iff.1 h).1
theorem Places.below {w w' : World} {S : Nat} {ss : List GSpot} (h : Places w S ss) (hb : Below w.heap.size w w') : Places w' S ss := by
  obtain ⟨xs, h1, h2, h3⟩ := h
  exact ⟨xs, h1, by rw [hb.block S (Array.getElem?_eq_some_iff.1 h2).1]; exact h2, fun x hx => ⟨(h3 x hx).1.below hb, (h3 x hx).2⟩⟩
theorem Places.at {w : World} {S : Nat} {ss : List GSpot} (h : Places w S ss) (k : Nat) (hk : k < ss.length) : ∃ v, w.cell? ⟨S, k * 3, none⟩ = some (.bool (spotAt ss k).reached) ∧ w.cell? ⟨S, k * 3 + 1, none⟩ = some v ∧ w.cell? ⟨S, k * 3 + 2, none⟩ = some (.int .i64 (spotAt ss k).steps) ∧ Rd oneU8 1 w v (spotAt ss k).stack ∧ v.ownBlock ≠ some S ∧ w.frozen? ⟨S, k * 3, none⟩ = false ∧ w.frozen? ⟨S, k * 3 + 1, none⟩ = false ∧ w.frozen? ⟨S, k * 3 + 2, none⟩ = false := by
  obtain ⟨xs, rfl, h2, h3⟩ := h
  have hk' : k < xs.length := by simpa using hk
  have e : spotAt (xs.map (·.1)) k = xs[k].1 := by
    unfold spotAt
    rw [List.getD_eq_getElem?_getD, List.getElem?_map, List.getElem?_eq_getElem hk']
    rfl
  have c := fun i u (hu : (encSp xs[k])[i]? = some u) => flatMap_at encSp_len xs k hk' i u hu
  rw [e]
  refine ⟨xs[k].2, ?_, ?_, ?_, (h3 _ (List.getElem_mem hk')).1, (h3 _ (List.getElem_mem hk')).2, frozen_of_row w S _ _ _ h2, frozen_of_row w S _ _ _ h2, frozen_of_row w S _ _ _ h2⟩
  · rw [cell_of_row _ _ _ _ _ _ h2]
    simpa using c 0 _ rfl
  · rw [cell_of_row _ _ _ _ _ _ h2]
    simpa using c 1 _ rfl
  · rw [cell_of_row _ _ _ _ _ _ h2]
    simpa using c 2 _ rfl
theorem flat_set3 (y : GSpot × Value) : ∀ (l : List (GSpot × Value)) (k : Nat), k < l.length → (((l.flatMap encSp).set (k * 3) (.bool y.1.reached)).set (k * 3 + 1) y.2).set (k * 3 + 2) (.int .i64 y.1.steps) = (l.set k y).flatMap encSp := by
  intro l
  induction l with
  | nil => intro k h; exact absurd h (by simp)
  | cons x l ih =>
    intro k h
    cases k with
    | zero => rfl
    | succ k =>
      have := ih k (by simpa using h)
      rw [List.set_cons_succ, List.flatMap_cons, List.flatMap_cons, ← this, show (k + 1) * 3 = k * 3 + 1 + 1 + 1 by omega]
      rfl
theorem grown_cell (w : World) (g j : Nat) (u : Value) : w.grownBy (w.setCell ⟨g, j, none⟩ u) (some g) :=
  ⟨rfl, rfl, rfl, by simp, fun i hi hne => heap_setCell_other w ⟨g, j, none⟩ i u (fun e => hne (by rw [e]))⟩
theorem Rd.grownS {α : Type} {enc : α → List Value} {k : Nat} {w w' : World} {v : Value} {xs : List α} {g : Nat} (h : Rd enc k w v xs) (hg : w.grownBy w' (some g)) (hne : v.ownBlock ≠ some g) : Rd enc k w' v xs := by
  obtain ⟨h0, A, c, h1, h2, h4, h3⟩ := h
  refine ⟨h0, A, c, h1, h2, h4, fun hp => ?_⟩
  obtain ⟨b, off, e, hc⟩ := h3 hp
  refine ⟨b, off, e, fun j hj i u hu => hg.cell (hc j hj i u hu) (fun e2 => hne ?_)⟩
  subst h1 e
  exact e2
theorem Places.put {w : World} {S : Nat} {ss : List GSpot} (h : Places w S ss) (k : Nat) (hk : k < ss.length) (st : List Int) (n : Int) (v : Value) (hv : Rd oneU8 1 w v st) (hne : v.ownBlock ≠ some S) :
    Places (((w.setCell ⟨S, k * 3, none⟩ (.bool true)).setCell ⟨S, k * 3 + 1, none⟩ v).setCell ⟨S, k * 3 + 2, none⟩ (.int .i64 n)) S (ss.set k ⟨true, st, n⟩) ∧ w.grownBy (((w.setCell ⟨S, k * 3, none⟩ (.bool true)).setCell ⟨S, k * 3 + 1, none⟩ v).setCell ⟨S, k * 3 + 2, none⟩ (.int .i64 n)) (some S) := by
  obtain ⟨xs, rfl, h2, h3⟩ := h
  have hk' : k < xs.length := by simpa using hk
  have g : w.grownBy (((w.setCell ⟨S, k * 3, none⟩ (.bool true)).setCell ⟨S, k * 3 + 1, none⟩ v).setCell ⟨S, k * 3 + 2, none⟩ (.int .i64 n)) (some S) :=
    grown_trans (grown_cell w S _ _) (grown_trans (grown_cell _ S _ _) (grown_cell _ S _ _))
  refine ⟨⟨xs.set k (⟨true, st, n⟩, v), ?_, ?_, ?_⟩, g⟩
  · rw [List.map_set]
  · have h4 := heap_setCell_same _ S (k * 3 + 2) _ _ (.int .i64 n) (heap_setCell_same _ S (k * 3 + 1) _ _ v (heap_setCell_same w S (k * 3) _ _ (.bool true) h2))
    rw [h4, ← flat_set3 (⟨true, st, n⟩, v) xs k hk']
    simp
  · intro x hx
    rcases List.mem_or_eq_of_mem_set hx with hx | rfl
    · exact ⟨(h3 x hx).1.grownS g (h3 x hx).2, (h3 x hx).2⟩
    · exact ⟨hv.grownS g hne, hne⟩
/-- A checker at X with its places at S; w0 is the world in which the call began. -/
structure ChkSt (w0 w : World) (X S : Nat) (c : GCode) (vs bs is : Value) (ss : List GSpot) : Prop where
  row : w.heap[X]? = some (.cells #[.string c.name, vs, bs, is, .slice (some ⟨S, 0, none⟩) ss.length ss.length] 91 (0, 0))
  old : CodeRd w0 c vs bs is
  bel : Below w0.heap.size w0 w
  lo : w0.heap.size ≤ S
  ne : X ≠ S
  pl : Places w S ss
theorem ChkSt.chk {w0 w : World} {X S : Nat} {c : GCode} {vs bs is : Value} {ss : List GSpot} (h : ChkSt w0 w X S c vs bs is ss) : ChkAt w X c vs bs is (.slice (some ⟨S, 0, none⟩) ss.length ss.length) := ⟨h.row, h.old.below h.bel⟩
theorem ChkSt.below {w0 w w' : World} {X S : Nat} {c : GCode} {vs bs is : Value} {ss : List GSpot} (h : ChkSt w0 w X S c vs bs is ss) (hb : Below w.heap.size w w') : ChkSt w0 w' X S c vs bs is ss :=
  ⟨by rw [hb.block X (Array.getElem?_eq_some_iff.1 h.row).1]; exact h.row, h.old, h.bel.trans (hb.mono h.bel.size), h.lo, h.ne, h.pl.below hb⟩
theorem ChkSt.turn {w0 w w' : World} {X S : Nat} {c : GCode} {vs bs is : Value} {ss ss' : List GSpot} (h : ChkSt w0 w X S c vs bs is ss) (hg : w.grownBy w' (some S)) (hp : Places w' S ss') (hl : ss'.length = ss.length) : ChkSt w0 w' X S c vs bs is ss' :=
  ⟨by rw [hg.block X (Array.getElem?_eq_some_iff.1 h.row).1 (fun e => h.ne (by cases e; rfl)), hl]; exact h.row, h.old, h.bel.grown hg h.bel.size (fun k hk => by cases hk; exact h.lo), h.lo, h.ne, hp⟩
end Go.Proofs.Ythiapebodpkamaa

