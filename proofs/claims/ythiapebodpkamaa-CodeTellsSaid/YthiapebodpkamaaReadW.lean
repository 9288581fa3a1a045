/- Contract of code.Read: words. -/
import Derived.Test.YthiapebodpkamaaRdi
import Derived.Test.YthiapebodpkamaaReadL
import Derived.Test.YthiapebodpkamaaRightC
import Derived.Deep.AppendLies
namespace Go.Proofs.Ythiapebodpkamaa
open Go.RowKit
theorem grown_below2 {w w1 w2 : World} {k : Option Nat} (h : w.grownBy w1 k) (hb : Below w1.heap.size w1 w2) : w.grownBy w2 k := grown_trans h (grown_below hb k)
theorem Own.grownN {α : Type} {E : TypeId} {k : Nat} {enc : α → List Value} {w w' : World} {base g : Nat} {v : Value} {xs : List α} (h : Own E k enc w base v xs) (hg : w.grownBy w' (some g)) (hne : g < base) : Own E k enc w' base v xs :=
  h.move fun b hb => by
    obtain ⟨h1, cur, h2⟩ := own_typed h b hb
    have hlt := (World.ownsRow.lt h b hb).1
    refine hg.block b (Array.getElem?_eq_some_iff.1 h2).1 (fun e => ?_)
    injection e with e
    omega
/-- On the way through code.Read: the reader at r, the program at C. -/
structure ReadSt (w W : World) (r C : Nat) (v : Value) (l : List Int) (o : Option (List Int)) (nm : ByteArray) (V B I : Value) (xs : List GVar) (ks : List Int) (is : List GIns) : Prop where
  rd : RdAt W r v l o
  res : W.heap[w.heap.size]? = some (.cells #[.string ⟨#[]⟩, .slice none 0 0, .slice none 0 0, .slice none 0 0] 32 (0, 0))
  row : W.heap[C]? = some (.cells #[.string nm, V, B, I] 32 (0, 0))
  oV : Own 41 4 encVar W (C + 1) V xs
  oB : Own 42 1 oneU8 W (C + 1) B ks
  oI : Own 38 4 encIns W (C + 1) I is
  bel : Below w.heap.size w W
  rw_ : w.heap.size < r
  rC : r < C
  vb : 0 < l.length → ∀ b, v.ownBlock = some b → b < w.heap.size
theorem ReadSt.cells {w W : World} {r C : Nat} {v : Value} {l : List Int} {o : Option (List Int)} {nm : ByteArray} {V B I : Value} {xs : List GVar} {ks : List Int} {is : List GIns} (h : ReadSt w W r C v l o nm V B I xs ks is) : W.cell? ⟨r, 2, none⟩ = some (.bool (match o with | some _ => false | none => true)) := by
  obtain ⟨_, at_, bad, _, hr, hs⟩ := h.rd
  rw [(row3 hr).1.2.2]
  cases o with
  | none => rw [show bad = true from hs]
  | some rest => rw [show bad = false from hs.1]
theorem ReadSt.below {w W W' : World} {r C : Nat} {v : Value} {l : List Int} {o : Option (List Int)} {nm : ByteArray} {V B I : Value} {xs : List GVar} {ks : List Int} {is : List GIns} (h : ReadSt w W r C v l o nm V B I xs ks is) (hb : Below W.heap.size W W') : ReadSt w W' r C v l o nm V B I xs ks is :=
  ⟨h.rd.below hb, (hb.block _ (Array.getElem?_eq_some_iff.1 h.res).1).trans h.res, (hb.block _ (Array.getElem?_eq_some_iff.1 h.row).1).trans h.row, h.oV.below hb, h.oB.below hb, h.oI.below hb, h.bel.trans (hb.mono h.bel.size), h.rw_, h.rC, h.vb⟩
/-- A reading changes the reader alone. -/
theorem ReadSt.read {w W W' : World} {r C : Nat} {v : Value} {l : List Int} {o o' : Option (List Int)} {nm : ByteArray} {V B I : Value} {xs : List GVar} {ks : List Int} {is : List GIns} (h : ReadSt w W r C v l o nm V B I xs ks is) (hr : RdAt W' r v l o') (hg : W.grownBy W' (some r)) : ReadSt w W' r C v l o' nm V B I xs ks is :=
  ⟨hr, grown_row hg h.res (by have := h.rw_; omega), grown_row hg h.row (by have := h.rC; omega), h.oV.grownN hg (by have := h.rC; omega), h.oB.grownN hg (by have := h.rC; omega), h.oI.grownN hg (by have := h.rC; omega), h.bel.grown hg h.bel.size (fun k hk => by cases hk; exact Nat.le_of_lt h.rw_), h.rw_, h.rC, h.vb⟩
/-- What is read in blocks that were there at first is read still, where blocks of the call's own turn. -/
theorem RdAt.kept {W W' : World} {r : Nat} {v : Value} {l : List Int} {o : Option (List Int)} {k : Option Nat} (h : RdAt W r v l o) (hg : W.grownBy W' k) (hv : 0 < l.length → ∀ b, v.ownBlock = some b → k ≠ some b) (hr : k ≠ some r) : RdAt W' r v l o := by
  obtain ⟨⟨h0, A, c, rfl, h2, h4, h3⟩, at_, bad, ha, hr0, hs⟩ := h
  refine ⟨⟨h0, A, c, rfl, h2, h4, fun hp => ?_⟩, at_, bad, ha, ?_, hs⟩
  · obtain ⟨b, off, rfl, hc⟩ := h3 hp
    exact ⟨b, off, rfl, fun j hj i u hu => hg.cell (hc j hj i u hu) (fun e => hv hp b rfl e.symm)⟩
  · rw [hg.block r (Array.getElem?_eq_some_iff.1 hr0).1 (fun e => hr e.symm)]; exact hr0
theorem Own.grown_other {α β : Type} {E E' : TypeId} {k k' : Nat} {enc : α → List Value} {enc' : β → List Value} {w w' : World} {base base' : Nat} {v vv : Value} {xs : List α} {ys : List β} (h : Own E k enc w base v xs) (o : Own E' k' enc' w base' vv ys) (hne : E ≠ E') (g : w.grownBy w' vv.ownBlock) : Own E k enc w' base v xs :=
  h.move fun b hb => by
    obtain ⟨_, cur, h2⟩ := own_typed h b hb
    refine g.block b (Array.getElem?_eq_some_iff.1 h2).1 (fun e => ?_)
    obtain ⟨_, cur', h3⟩ := own_typed o b e.symm
    rw [h2] at h3
    injection h3 with h3
    injection h3 with _ e2 _
    exact hne e2
theorem row_block {w w' : World} {k : Option Nat} {i : Nat} {o : Obj} (h : w.grownBy w' k) (hi : w.heap[i]? = some o) (hne : k ≠ some i) : w'.heap[i]? = some o := by
  rw [h.block i (Array.getElem?_eq_some_iff.1 hi).1 (fun e => hne e.symm)]; exact hi
theorem ReadSt.grewV {w W w1 : World} {r C : Nat} {v : Value} {l : List Int} {o : Option (List Int)} {nm : ByteArray} {V B I : Value} {xs : List GVar} {ks : List Int} {is : List GIns} (h : ReadSt w W r C v l o nm V B I xs ks is) {N : Value} (y : GVar) {ob : Obj} (OW : w1.ownsRow (C + 1) 41 4 N (xs.length + 1) (xs.flatMap encVar ++ encVar y)) (GR : (W.alloc ob).grownBy w1 V.ownBlock) :
    ReadSt w (w1.setCell ⟨C, 1, none⟩ N) r C v l o nm N B I (xs ++ [y]) ks is := by
  have h1 := h.below (one_block W ob).1
  have hk : ∀ b, V.ownBlock = some b → C + 1 ≤ b := fun b hb => (World.ownsRow.lt h1.oV b hb).1
  have hrC := h1.rC
  have hwr := h1.rw_
  have row1 := row_block GR h1.row (fun e => by have := hk _ e; omega)
  have res1 := row_block GR h1.res (fun e => by have := hk _ e; omega)
  have rd1 := h1.rd.kept GR (fun hp b hb e => by have := hk _ e; have := h1.vb hp b hb; omega) (fun e => by have := hk _ e; omega)
  have own1 : Own 41 4 encVar w1 (C + 1) N (xs ++ [y]) := by
    show w1.ownsRow (C + 1) 41 4 N (xs ++ [y]).length ((xs ++ [y]).flatMap encVar)
    rw [List.length_append, List.flatMap_append]
    simpa using OW
  have bel1 : Below w.heap.size w w1 := h1.bel.grown GR h1.bel.size (fun k hk' => by have := hk k hk'; omega)
  refine ⟨rd1.kept (set_grown w1 C 1 N) (fun hp b hb e => by cases e; have := h1.vb hp _ hb; omega) (fun e => by cases e; omega), row_other N res1 (by omega), set4_1 row1, own1.set row1 (by decide) 1 N, ((h1.oB.grown_other h1.oV (by decide) GR).set row1 (by decide) 1 N), ((h1.oI.grown_other h1.oV (by decide) GR).set row1 (by decide) 1 N), bel1.setCell (p := ⟨C, 1, none⟩) (by show w.heap.size ≤ C; omega) N, hwr, hrC, h1.vb⟩
theorem ReadSt.grewB {w W w1 : World} {r C : Nat} {v : Value} {l : List Int} {o : Option (List Int)} {nm : ByteArray} {V B I : Value} {xs : List GVar} {ks : List Int} {is : List GIns} (h : ReadSt w W r C v l o nm V B I xs ks is) {N : Value} (y : Int) {ob : Obj} (OW : w1.ownsRow (C + 1) 42 1 N (ks.length + 1) (ks.flatMap oneU8 ++ oneU8 y)) (GR : (W.alloc ob).grownBy w1 B.ownBlock) :
    ReadSt w (w1.setCell ⟨C, 2, none⟩ N) r C v l o nm V N I xs (ks ++ [y]) is := by
  have h1 := h.below (one_block W ob).1
  have hk : ∀ b, B.ownBlock = some b → C + 1 ≤ b := fun b hb => (World.ownsRow.lt h1.oB b hb).1
  have hrC := h1.rC
  have hwr := h1.rw_
  have row1 := row_block GR h1.row (fun e => by have := hk _ e; omega)
  have res1 := row_block GR h1.res (fun e => by have := hk _ e; omega)
  have rd1 := h1.rd.kept GR (fun hp b hb e => by have := hk _ e; have := h1.vb hp b hb; omega) (fun e => by have := hk _ e; omega)
  have own1 : Own 42 1 oneU8 w1 (C + 1) N (ks ++ [y]) := by
    show w1.ownsRow (C + 1) 42 1 N (ks ++ [y]).length ((ks ++ [y]).flatMap oneU8)
    rw [List.length_append, List.flatMap_append]
    simpa using OW
  have bel1 : Below w.heap.size w w1 := h1.bel.grown GR h1.bel.size (fun k hk' => by have := hk k hk'; omega)
  refine ⟨rd1.kept (set_grown w1 C 2 N) (fun hp b hb e => by cases e; have := h1.vb hp _ hb; omega) (fun e => by cases e; omega), row_other N res1 (by omega), set4_2 row1, ((h1.oV.grown_other h1.oB (by decide) GR).set row1 (by decide) 2 N), own1.set row1 (by decide) 2 N, ((h1.oI.grown_other h1.oB (by decide) GR).set row1 (by decide) 2 N), bel1.setCell (p := ⟨C, 2, none⟩) (by show w.heap.size ≤ C; omega) N, hwr, hrC, h1.vb⟩
theorem ReadSt.grewI {w W w1 : World} {r C : Nat} {v : Value} {l : List Int} {o : Option (List Int)} {nm : ByteArray} {V B I : Value} {xs : List GVar} {ks : List Int} {is : List GIns} (h : ReadSt w W r C v l o nm V B I xs ks is) {N : Value} (y : GIns) {ob : Obj} (OW : w1.ownsRow (C + 1) 38 4 N (is.length + 1) (is.flatMap encIns ++ encIns y)) (GR : (W.alloc ob).grownBy w1 I.ownBlock) :
    ReadSt w (w1.setCell ⟨C, 3, none⟩ N) r C v l o nm V B N xs ks (is ++ [y]) := by
  have h1 := h.below (one_block W ob).1
  have hk : ∀ b, I.ownBlock = some b → C + 1 ≤ b := fun b hb => (World.ownsRow.lt h1.oI b hb).1
  have hrC := h1.rC
  have hwr := h1.rw_
  have row1 := row_block GR h1.row (fun e => by have := hk _ e; omega)
  have res1 := row_block GR h1.res (fun e => by have := hk _ e; omega)
  have rd1 := h1.rd.kept GR (fun hp b hb e => by have := hk _ e; have := h1.vb hp b hb; omega) (fun e => by have := hk _ e; omega)
  have own1 : Own 38 4 encIns w1 (C + 1) N (is ++ [y]) := by
    show w1.ownsRow (C + 1) 38 4 N (is ++ [y]).length ((is ++ [y]).flatMap encIns)
    rw [List.length_append, List.flatMap_append]
    simpa using OW
  have bel1 : Below w.heap.size w w1 := h1.bel.grown GR h1.bel.size (fun k hk' => by have := hk k hk'; omega)
  refine ⟨rd1.kept (set_grown w1 C 3 N) (fun hp b hb e => by cases e; have := h1.vb hp _ hb; omega) (fun e => by cases e; omega), row_other N res1 (by omega), set4_3 row1, ((h1.oV.grown_other h1.oI (by decide) GR).set row1 (by decide) 3 N), ((h1.oB.grown_other h1.oI (by decide) GR).set row1 (by decide) 3 N), own1.set row1 (by decide) 3 N, bel1.setCell (p := ⟨C, 3, none⟩) (by show w.heap.size ≤ C; omega) N, hwr, hrC, h1.vb⟩
end Go.Proofs.Ythiapebodpkamaa

