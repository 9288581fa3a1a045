/- A map literal whose elements are function values, in a region that draws its order: what holds when some of its operations are done. -/
import Derived.Test.YthiapebodpkamaaRegion
import Derived.Test.YthiapebodpkamaaMaps
namespace Go.Proofs.Ythiapebodpkamaa
open Go.RowKit
inductive VSpec
  | val (v : Value)
  | clo (g : Nat) (n : Int)
def IsClo (w : World) (g : Nat) (n : Int) (v : Value) : Prop := ∃ B, v = .func (.func g) #[] #[.pointer (some ⟨B, 0, none⟩)] ∧ w.cell? ⟨B, 0, none⟩ = some (.int .i64 n)
def IsV (w : World) : VSpec → Value → Prop
  | .val v0, v => v = v0
  | .clo g n, v => IsClo w g n v
theorem IsV.move {w w' : World} {s : VSpec} {v : Value} (h : IsV w s v) (hm : ∀ a u, w.cell? a = some u → w'.cell? a = some u) : IsV w' s v := by
  cases s with
  | val v0 => exact h
  | clo g n =>
    obtain ⟨B, h1, h2⟩ := h
    exact ⟨B, h1, hm _ _ h2⟩
abbrev mkU8 : Int → Value := fun n => .int .u8 n
structure LitSt (F : List (Nat × Nat × VSpec)) (G : List (Nat × Int × VSpec)) (H : List (Nat × Nat)) (m0 m1 : Nat) (fix : List (Nat × Value)) (B0 : Nat) (w0 : World) (n : Nat) (b : Nat → Bool) (a : Act) (w : World) : Prop where
  defers : a.defers = []
  size : a.tmps.size = n
  fixed : ∀ x ∈ fix, a.eval (.tmp x.1) = x.2
  bel : Below B0 w0 w
  f : ∀ x ∈ F, b x.1 = true → IsV w x.2.2 (a.eval (.tmp x.2.1))
  g : b m0 = true → ∃ M fn, a.eval (.tmp m1) = .map (some M) ∧ B0 ≤ M ∧ MapFn mkU8 w M fn ∧ ∀ x ∈ G, b x.1 = true → ∃ v, fn x.2.1 = some v ∧ IsV w x.2.2 v
  h : ∀ x ∈ H, b x.1 = true → a.eval (.tmp x.2) = a.eval (.tmp m1)
  cg : ∀ x ∈ G, b x.1 = true → b m0 = true
  ch : ∀ x ∈ H, b x.1 = true → b m0 = true
theorem eval_put_ne {a : Act} {d t : Nat} {v : Value} (h : t ≠ d) : (a.put (some d) v).eval (.tmp t) = a.eval (.tmp t) := by
  simp [Act.put, Act.eval, Array.getD_eq_getD_getElem?, Ne.symm h]
theorem eval_put_self {a : Act} {d : Nat} {v : Value} (h : d < a.tmps.size) : (a.put (some d) v).eval (.tmp d) = v := by
  simp [Act.put, Act.eval, Array.getD_eq_getD_getElem?, h]
section
variable {F : List (Nat × Nat × VSpec)} {G : List (Nat × Int × VSpec)} {H : List (Nat × Nat)} {m0 m1 : Nat} {fix : List (Nat × Value)} {B0 : Nat} {w0 : World} {n : Nat} {b : Nat → Bool} {a : Act} {w : World}
theorem ub_true {b : Nat → Bool} {i j : Nat} (h : ub b i j = true) : j = i ∨ b j = true := by
  by_cases e : j = i
  · exact .inl e
  · rw [ub_ne e] at h; exact .inr h
theorem ub_of {b : Nat → Bool} {i j : Nat} (h : b j = true) : ub b i j = true := by
  by_cases e : j = i
  · subst e; exact ub_self _ _
  · rw [ub_ne e]; exact h
/-- A value that is no part of the map is put into its slot; memory may have been made. -/
theorem LitSt.put (h : LitSt F G H m0 m1 fix B0 w0 n b a w) (i d : Nat) (v : Value) {w' : World} (hw : Below w.heap.size w w') (hB : B0 ≤ w.heap.size) (hd : d < n)
    (hF : ∀ x ∈ F, x.1 = i → x.2.1 = d ∧ IsV w' x.2.2 v) (hFd : ∀ x ∈ F, x.1 ≠ i → x.2.1 ≠ d) (hG : ∀ x ∈ G, x.1 ≠ i) (hH : ∀ x ∈ H, x.1 ≠ i ∧ x.2 ≠ d) (hm : m0 ≠ i) (hm1 : m1 ≠ d) (hfix : ∀ x ∈ fix, x.1 ≠ d) :
    LitSt F G H m0 m1 fix B0 w0 n (ub b i) (a.put (some d) v) w' where
  defers := h.defers
  size := by simpa [Act.put] using h.size
  fixed x hx := by rw [eval_put_ne (hfix x hx)]; exact h.fixed x hx
  bel := h.bel.trans (hw.mono hB)
  f x hx hb := by
    by_cases e : x.1 = i
    · obtain ⟨h1, h2⟩ := hF x hx e
      rw [h1, eval_put_self (by rw [h.size]; exact hd)]
      exact h2
    · rw [ub_ne e] at hb
      rw [eval_put_ne (hFd x hx e)]
      exact (h.f x hx hb).move (cell_below hw)
  g hb := by
    rw [ub_ne hm] at hb
    obtain ⟨M, fn, h1, h2, h3, h4⟩ := h.g hb
    refine ⟨M, fn, by rw [eval_put_ne hm1]; exact h1, h2, h3.keep (hw.block M h3.lt), fun x hx hbx => ?_⟩
    rw [ub_ne (hG x hx)] at hbx
    obtain ⟨u, h5, h6⟩ := h4 x hx hbx
    exact ⟨u, h5, h6.move (cell_below hw)⟩
  h x hx hb := by
    rw [ub_ne (hH x hx).1] at hb
    rw [eval_put_ne (hH x hx).2, eval_put_ne hm1]
    exact h.h x hx hb
  cg x hx hb := by rw [ub_ne (hG x hx)] at hb; rw [ub_ne hm]; exact h.cg x hx hb
  ch x hx hb := by rw [ub_ne (hH x hx).1] at hb; rw [ub_ne hm]; exact h.ch x hx hb
/-- The map is made. -/
theorem LitSt.made (h : LitSt F G H m0 m1 fix B0 w0 n b a w) (hb : b m0 = false) (hB : B0 ≤ w.heap.size) (hd : m1 < n)
    (hF : ∀ x ∈ F, x.1 ≠ m0 ∧ x.2.1 ≠ m1) (hG : ∀ x ∈ G, x.1 ≠ m0) (hH : ∀ x ∈ H, x.1 ≠ m0) (hfix : ∀ x ∈ fix, x.1 ≠ m1) :
    LitSt F G H m0 m1 fix B0 w0 n (ub b m0) (a.put (some m1) (.map (some w.heap.size))) (w.alloc (.map #[] 0)) where
  defers := h.defers
  size := by simpa [Act.put] using h.size
  fixed x hx := by rw [eval_put_ne (hfix x hx)]; exact h.fixed x hx
  bel := h.bel.alloc hB _
  f x hx hbx := by
    rw [ub_ne (hF x hx).1] at hbx
    rw [eval_put_ne (hF x hx).2]
    exact (h.f x hx hbx).move (cell_below ((Below.refl _ _).alloc (Nat.le_refl _) _))
  g _ := ⟨w.heap.size, fun _ => none, eval_put_self (by rw [h.size]; exact hd), hB, MapFn.made _ _, fun x hx hbx => by
    rw [ub_ne (hG x hx)] at hbx
    have := h.cg x hx hbx
    rw [hb] at this; cases this⟩
  h x hx hbx := by
    rw [ub_ne (hH x hx)] at hbx
    have := h.ch x hx hbx
    rw [hb] at this; cases this
  cg x hx hbx := ub_self _ _
  ch x hx hbx := ub_self _ _
/-- An element is put into the map. -/
theorem LitSt.ins (h : LitSt F G H m0 m1 fix B0 w0 n b a w) (i : Nat) (key : Int) (v : Value) {w' : World} {M : Nat} {fn : Int → Option Value} (hM : a.eval (.tmp m1) = .map (some M)) (hMB : B0 ≤ M) (hfn : MapFn mkU8 w M fn)
    (hall : ∀ x ∈ G, b x.1 = true → ∃ v, fn x.2.1 = some v ∧ IsV w x.2.2 v) (hbm : b m0 = true)
    (h1 : MapFn mkU8 w' M (fun c => if c = key then some v else fn c)) (hg : w.grownBy w' (some M))
    (hF : ∀ x ∈ F, x.1 ≠ i) (hG : ∀ x ∈ G, x.1 = i → x.2.1 = key ∧ IsV w x.2.2 v) (hGk : ∀ x ∈ G, x.1 ≠ i → x.2.1 ≠ key) (hH : ∀ x ∈ H, x.1 ≠ i) : LitSt F G H m0 m1 fix B0 w0 n (ub b i) a w' := by
  have hmv : ∀ ad u, w.cell? ad = some u → w'.cell? ad = some u := fun ad u hc => by
    refine hg.cell hc (fun e => ?_)
    obtain ⟨l, ⟨es, c, hh, _⟩, _⟩ := hfn
    have e' : ad.block = M := by injection e
    simp [World.cell?, e', hh] at hc
  exact {
    defers := h.defers
    size := h.size
    fixed := h.fixed
    bel := h.bel.grown hg (Nat.le_trans hMB (Nat.le_of_lt hfn.lt)) (fun k hk => by cases hk; exact hMB)
    f := fun x hx hb => by
      rw [ub_ne (hF x hx)] at hb
      exact (h.f x hx hb).move hmv
    g := fun _ => ⟨M, _, hM, hMB, h1, fun x hx hb => by
      by_cases e : x.1 = i
      · obtain ⟨h5, h6⟩ := hG x hx e
        exact ⟨v, by rw [h5, if_pos rfl], h6.move hmv⟩
      · rw [ub_ne e] at hb
        obtain ⟨u, h5, h6⟩ := hall x hx hb
        exact ⟨u, by rw [if_neg (hGk x hx e)]; exact h5, h6.move hmv⟩⟩
    h := fun x hx hb => by rw [ub_ne (hH x hx)] at hb; exact h.h x hx hb
    cg := fun x hx hb => ub_of hbm
    ch := fun x hx hb => ub_of hbm }
/-- The map's value is copied. -/
theorem LitSt.mov (h : LitSt F G H m0 m1 fix B0 w0 n b a w) (i d : Nat) (hbm : b m0 = true) (hd : d < n) (hm1 : m1 ≠ d)
    (hF : ∀ x ∈ F, x.1 ≠ i ∧ x.2.1 ≠ d) (hG : ∀ x ∈ G, x.1 ≠ i) (hH : ∀ x ∈ H, x.1 = i → x.2 = d) (hHd : ∀ x ∈ H, x.1 ≠ i → x.2 ≠ d) (hfix : ∀ x ∈ fix, x.1 ≠ d) :
    LitSt F G H m0 m1 fix B0 w0 n (ub b i) (a.put (some d) (a.eval (.tmp m1))) w where
  defers := h.defers
  size := by simpa [Act.put] using h.size
  fixed x hx := by rw [eval_put_ne (hfix x hx)]; exact h.fixed x hx
  bel := h.bel
  f x hx hb := by
    rw [ub_ne (hF x hx).1] at hb
    rw [eval_put_ne (hF x hx).2]
    exact h.f x hx hb
  g hb := by
    obtain ⟨M, fn, h1, h2, h3, h4⟩ := h.g hbm
    refine ⟨M, fn, by rw [eval_put_ne hm1]; exact h1, h2, h3, fun x hx hbx => ?_⟩
    rw [ub_ne (hG x hx)] at hbx
    exact h4 x hx hbx
  h x hx hb := by
    rw [eval_put_ne hm1]
    by_cases e : x.1 = i
    · rw [hH x hx e, eval_put_self (by rw [h.size]; exact hd)]
    · rw [ub_ne e] at hb
      rw [eval_put_ne (hHd x hx e)]
      exact h.h x hx hb
  cg x hx hb := ub_of hbm
  ch x hx hb := ub_of hbm
end
end Go.Proofs.Ythiapebodpkamaa

