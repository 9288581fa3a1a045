/- A region that draws its order, whose operations put values into slots, make rows and append to them: one list of claims, each shown where it is made and kept elsewhere. -/
import Derived.Test.YtiogpainajokkaaBaseM
import Derived.Test.YtiogpainajokkaaChkM
import Derived.Test.YtiogpainajokkaaBlkM
import Derived.Deep.CutBlock
namespace Go.Proofs.Ytiogpainajokkaa
open Go.RowKit
inductive Spec
  | val (v : Value)
  | row (E : TypeId) (k n : Nat) (cs : List Value)
  | box (T : TypeId) (cs : Array Value)
  | pred (S : World → Value → Prop)
def Spec.holds (B0 : Nat) (w : World) (s : Spec) (v : Value) : Prop :=
  match s with
  | .val v0 => v = v0
  | .row E k n cs => w.ownsRow B0 E k v n cs
  | .box T cs => ∃ g, v = .pointer (some ⟨g, 0, none⟩) ∧ B0 ≤ g ∧ w.heap[g]? = some (.cells cs T (0, 0))
  | .pred S => S w v
def Spec.Fine (s : Spec) : Prop :=
  match s with
  | .pred S => ∀ w w' v, Below w.heap.size w w' → S w v → S w' v
  | _ => True
theorem row_move {E : TypeId} {k n : Nat} {w w' : World} {base : Nat} {v : Value} {xs : List Value} (h : w.ownsRow base E k v n xs) (hm : ∀ b, v.ownBlock = some b → w'.heap[b]? = w.heap[b]?) : w'.ownsRow base E k v n xs := by
  obtain ⟨h1, h2⟩ := h
  refine ⟨h1, ?_⟩
  rcases h2 with h2 | ⟨g, cap, cur, rfl, hg, hh, r⟩
  · exact .inl h2
  · exact .inr ⟨g, cap, cur, rfl, hg, (hm g rfl).trans hh, r⟩
theorem row_grow {E E' : TypeId} {k n : Nat} {w w' : World} {base : Nat} {v : Value} {xs : List Value} (h : w.ownsRow base E k v n xs) (g : Grow base E' w w') (hne : E ≠ E') : w'.ownsRow base E k v n xs :=
  row_move h fun b hb => by
    obtain ⟨_, cur, h2⟩ := own_typed h b hb
    exact (g.other h2 hne).trans h2.symm
theorem row_below {E : TypeId} {k n : Nat} {w w' : World} {base : Nat} {v : Value} {xs : List Value} (h : w.ownsRow base E k v n xs) (hb : Below w.heap.size w w') : w'.ownsRow base E k v n xs :=
  row_move h fun b hb' => by
    obtain ⟨_, cur, h2⟩ := own_typed h b hb'
    exact hb.block b (Array.getElem?_eq_some_iff.1 h2).1
theorem row_new0 (w : World) (B0 : Nat) (h : B0 ≤ w.heap.size) (E : TypeId) (k : Nat) : (w.alloc (.cells #[] E)).ownsRow B0 E k (.slice (some ⟨w.heap.size, 0, none⟩) 0 0) 0 [] :=
  ⟨by simp, .inr ⟨w.heap.size, 0, #[], rfl, h, heap_alloc_new w _, Nat.le_refl _, Nat.zero_le _, by simp, by simp⟩⟩
theorem set4_0 {w : World} {g : Nat} {a b c d u : Value} {T : TypeId} {fr : Nat × Nat} (h : w.heap[g]? = some (.cells #[a, b, c, d] T fr)) : (w.setCell ⟨g, 0, none⟩ u).heap[g]? = some (.cells #[u, b, c, d] T fr) := by
  simp only [World.setCell, Array.getElem?_modify, if_true, h, Option.map_some]
  rfl
theorem set4_1 {w : World} {g : Nat} {a b c d u : Value} {T : TypeId} {fr : Nat × Nat} (h : w.heap[g]? = some (.cells #[a, b, c, d] T fr)) : (w.setCell ⟨g, 1, none⟩ u).heap[g]? = some (.cells #[a, u, c, d] T fr) := by
  simp only [World.setCell, Array.getElem?_modify, if_true, h, Option.map_some]
  rfl
theorem set4_2 {w : World} {g : Nat} {a b c d u : Value} {T : TypeId} {fr : Nat × Nat} (h : w.heap[g]? = some (.cells #[a, b, c, d] T fr)) : (w.setCell ⟨g, 2, none⟩ u).heap[g]? = some (.cells #[a, b, u, d] T fr) := by
  simp only [World.setCell, Array.getElem?_modify, if_true, h, Option.map_some]
  rfl
theorem set4_3 {w : World} {g : Nat} {a b c d u : Value} {T : TypeId} {fr : Nat × Nat} (h : w.heap[g]? = some (.cells #[a, b, c, d] T fr)) : (w.setCell ⟨g, 3, none⟩ u).heap[g]? = some (.cells #[a, b, c, u] T fr) := by
  simp only [World.setCell, Array.getElem?_modify, if_true, h, Option.map_some]
  rfl
theorem arr_lits (A : Array Value) (n : Nat) (h : A.size = n) : A = ((List.range n).map fun i => A.getD i undef).toArray := by
  subst h
  apply Array.ext_getElem?
  intro i
  by_cases hi : i < A.size
  · simp [hi]
  · simp [hi]
/-- What an operation does to memory: it makes new blocks, or it appends to a row of element type E. -/
inductive Chg (B0 : Nat) (w w' : World) : Option TypeId → Prop
  | new : Below w.heap.size w w' → Chg B0 w w' none
  | app {E : TypeId} : Grow B0 E w w' → Chg B0 w w' (some E)
abbrev Claim := Nat × List Nat × Nat × Spec
/-- May the claim x be broken by operation i, that appends to type t? -/
def okB (D : List (Nat × Nat)) (t : Option TypeId) (i : Nat) (x : Claim) : Bool :=
  x.1 == i || x.2.1.contains i || (match t with
    | none => true
    | some E => match x.2.2.2 with
      | .val _ => true
      | .row E' _ _ _ => E' != E
      | .box T _ => T != E
      | .pred _ => D.contains (x.1, i))
def slB (D : List (Nat × Nat)) (i d : Nat) (x : Claim) : Bool := x.1 == i || x.2.2.1 != d || D.contains (x.1, i)
theorem Spec.keep {B0 : Nat} {w w' : World} {s : Spec} {v : Value} (hf : s.Fine) (h : s.holds B0 w v) (hw : Below w.heap.size w w') : s.holds B0 w' v := by
  cases s with
  | val v0 => exact h
  | row E k n cs => exact row_below h hw
  | box T cs =>
    obtain ⟨g, h1, h2, h3⟩ := h
    exact ⟨g, h1, h2, by rw [hw.block g (Array.getElem?_eq_some_iff.1 h3).1]; exact h3⟩
  | pred S => exact hf _ _ _ hw h
structure RegSt (F : List Claim) (D : List (Nat × Nat)) (fix : List (Nat × Value)) (B0 : Nat) (w0 : World) (n : Nat) (b : Nat → Bool) (a : Act) (w : World) : Prop where
  defers : a.defers = []
  size : a.tmps.size = n
  fixed : ∀ x ∈ fix, a.eval (.tmp x.1) = x.2
  bel : Below B0 w0 w
  f : ∀ x ∈ F, b x.1 = true → (∀ c ∈ x.2.1, b c = false) → x.2.2.2.holds B0 w (a.eval (.tmp x.2.2.1))
  dep : ∀ y ∈ D, b y.1 = true → b y.2 = true
section
variable {F : List Claim} {D : List (Nat × Nat)} {fix : List (Nat × Value)} {B0 : Nat} {w0 : World} {n : Nat} {b : Nat → Bool} {a : Act} {w : World}
theorem RegSt.got (h : RegSt F D fix B0 w0 n b a w) {i d : Nat} {cs : List Nat} {s : Spec} (hx : (i, cs, d, s) ∈ F) (hb : b i = true) (hc : ∀ c ∈ cs, b c = false) : s.holds B0 w (a.eval (.tmp d)) := h.f _ hx hb hc
theorem RegSt.put (h : RegSt F D fix B0 w0 n b a w) (i d : Nat) (v : Value) {w' : World} (t : Option TypeId) (hB : B0 ≤ w0.heap.size) (hF : ∀ x ∈ F, x.2.2.2.Fine) (hb : b i = false)
    (hc : Chg B0 w w' t) (hok : F.all (okB D t i) = true) (hsl : F.all (slB D i d) = true) (hfix : fix.all (fun x => x.1 != d) = true) (hd : d < n) (hD : ∀ y ∈ D, y.1 = i → b y.2 = true)
    (hs : ∀ x ∈ F, x.1 = i → x.2.2.1 = d ∧ x.2.2.2.holds B0 w' v) : RegSt F D fix B0 w0 n (ub b i) (a.put (some d) v) w' where
  defers := h.defers
  size := by simpa [Act.put] using h.size
  fixed x hx := by
    have := List.all_eq_true.1 hfix x hx
    rw [eval_put_ne (by simpa using this)]; exact h.fixed x hx
  bel := by
    have hle := Nat.le_trans hB h.bel.size
    cases hc with
    | new hw => exact h.bel.trans (hw.mono hle)
    | app hg => exact hg.below h.bel hle
  f x hx hbx hcs := by
    by_cases e : x.1 = i
    · obtain ⟨h1, h2⟩ := hs x hx e
      rw [h1, eval_put_self (by rw [h.size]; exact hd)]
      exact h2
    · rw [ub_ne e] at hbx
      have hni : i ∉ x.2.1 := fun hm => by have := hcs i hm; rw [ub_self] at this; cases this
      have hcs' : ∀ c ∈ x.2.1, b c = false := fun c hc' => by
        have := hcs c hc'
        cases hbc : b c with
        | false => rfl
        | true => rw [ub_of hbc] at this; cases this
      have hk := h.f x hx hbx hcs'
      have hs1 := List.all_eq_true.1 hsl x hx
      simp only [slB, Bool.or_eq_true, beq_iff_eq, bne_iff_ne] at hs1
      have hs2 : x.2.2.1 ≠ d := by
        rcases hs1 with (h1 | h1) | h1
        · exact absurd h1 e
        · exact h1
        · have := h.dep _ (List.contains_iff_mem.1 h1) hbx
          rw [hb] at this; cases this
      rw [eval_put_ne hs2]
      have ho := List.all_eq_true.1 hok x hx
      simp only [okB, Bool.or_eq_true, beq_iff_eq] at ho
      have ho' := ho.resolve_left (fun hh => hh.elim e (fun hm => hni (List.contains_iff_mem.1 hm)))
      cases hc with
      | new hw => exact Spec.keep (hF x hx) hk hw
      | app hg =>
        obtain ⟨x1, x2, x3, s⟩ := x
        cases s with
        | val v0 => exact hk
        | row E k m cs => exact row_grow hk hg (by simpa using ho')
        | box T cs =>
          obtain ⟨g, g1, g2, g3⟩ := hk
          exact ⟨g, g1, g2, hg.other g3 (by simpa using ho')⟩
        | pred S =>
          have := h.dep _ (List.contains_iff_mem.1 ho') hbx
          rw [hb] at this; cases this
  dep y hy hby := by
    by_cases e : y.1 = i
    · exact ub_of (hD y hy e)
    · rw [ub_ne e] at hby
      exact ub_of (h.dep y hy hby)
/-- The last operation, behind which one claim alone is left. -/
theorem RegSt.fin (h : RegSt F D fix B0 w0 n b a w) (i : Nat) {w' : World} (hbel : Below B0 w0 w') (hcons : F.all (fun x => x.1 == i || x.2.1.contains i) = true) (hD : ∀ y ∈ D, y.1 = i → b y.2 = true)
    (hs : ∀ x ∈ F, x.1 = i → x.2.2.2.holds B0 w' (a.eval (.tmp x.2.2.1))) : RegSt F D fix B0 w0 n (ub b i) a w' where
  defers := h.defers
  size := h.size
  fixed := h.fixed
  bel := hbel
  f x hx hbx hcs := by
    by_cases e : x.1 = i
    · exact hs x hx e
    · have := List.all_eq_true.1 hcons x hx
      simp only [Bool.or_eq_true, beq_iff_eq] at this
      have hm := List.contains_iff_mem.1 (this.resolve_left e)
      have := hcs i hm
      rw [ub_self] at this; cases this
  dep y hy hby := by
    by_cases e : y.1 = i
    · exact ub_of (hD y hy e)
    · rw [ub_ne e] at hby
      exact ub_of (h.dep y hy hby)
end
section
variable {P : Program} {α : Type} {o : Oper} {a : Act} {Q : Exit → Act → World → Prop} {K : Act → World → Prop}
theorem wp_append_row {w : World} (s x : Operand) (t : TypeId) (ho : o.op = .call { callee := .builtin .append, args := #[s, x], argTypes := #[t, t] })
    (base : Nat) (e : TypeId) (i : TypeInfo) (z : Value) (size bytes : Nat) (ht : P.underlying t = some (.slice e)) (hi : P.info? e = some i) (hz : i.zero = some z)
    (hsize : i.size = size) (hby : i.bytes = bytes) (hzs : z.cells.size = size) (hsz : 0 < size)
    (v : Value) (n : Nat) (xs : List Value) (hs : a.eval s = v) (hown : w.ownsRow base e size v n xs)
    (ad : Addr) (m c : Nat) (news : List Value) (hx : a.eval x = .slice (some ad) m c) (hl : news.length = m * size) (hnews : ∀ j u, news[j]? = some u → w.cell? (ad.add j) = some u) (h1 : ∀ u ∈ news, u.oneCell' = true)
    (h63 : n + m ≤ maxLen) (hbytes : (n + m) * bytes ≤ 140737488355328) (hbase : base ≤ w.heap.size)
    (h : ∀ v' w', w'.ownsRow base e size v' (n + m) (xs ++ news) → Row v w v' w' → K (a.put o.dst v') w') : o.wp P a w K Q := by
  obtain ⟨v', w', hr, h2, h3, _⟩ := run_append_own (P := P) w base t o.type e i z size bytes ht hi hz hsize hby hzs hsz v n xs hown ad m c news hl hnews h1 h63 hbytes hbase
  have hb := append_block (P := P) w base t o.type e i z size bytes ht hi hz hsize hby v n xs hown ad m c news hl hnews h1 h63 hbytes v' w' hr
  unfold Oper.wp execOp
  simp only [ho, resolve, invoke, builtin, Sem.run_bind, Sem.run_pure, Result.andThen_ok, List.map_toArray, List.map_cons, List.map_nil, hs, hx, hr]
  exact h v' w' h2 ⟨h3, hb⟩
theorem wp_append_rd {w : World} (s x : Operand) (t : TypeId)
    (ho : o.op = .call { callee := .builtin .append, args := #[s, x], argTypes := #[t, t] })
    (base : Nat) (e : TypeId) (i : TypeInfo) (z : Value) (size bytes : Nat) (ht : P.underlying t = some (.slice e)) (hi : P.info? e = some i) (hz : i.zero = some z)
    (hsize : i.size = size) (hby : i.bytes = bytes) (hzs : z.cells.size = size) (hsz : 0 < size) (hb0 : 0 < bytes) (enc : α → List Value) (henc : ∀ y, (enc y).length = size) (h1 : ∀ y, ∀ u ∈ enc y, u.oneCell' = true)
    (v : Value) (xs : List α) (hs : a.eval s = v) (hown : Own e size enc w base v xs) (u : Value) (ys : List α) (hx : a.eval x = u) (hr : Rd enc size w u ys)
    (hn : (xs.length + ys.length) * bytes ≤ 140737488355328) (hb : base ≤ w.heap.size)
    (h : ∀ v' w', Own e size enc w' base v' (xs ++ ys) → Row v w v' w' → K (a.put o.dst v') w') : o.wp P a w K Q := by
  have hm : xs.length + ys.length ≤ maxLen := by
    have := Nat.le_trans (Nat.le_mul_of_pos_right (xs.length + ys.length) hb0) hn
    simp only [maxLen]; omega
  obtain ⟨_, A, c, rfl, _, hnil, hcell⟩ := hr
  cases A with
  | none =>
    have hc := hnil rfl
    subst hc
    have hy : ys = [] := by
      cases ys with
      | nil => rfl
      | cons y l =>
        obtain ⟨_, _, e, _⟩ := hcell (by simp)
        cases e
    subst hy
    have hrun := run_append_owned_none (P := P) w base t o.type e i size ht hi v xs.length (xs.flatMap enc) hown
    unfold Oper.wp execOp
    simp only [ho, resolve, invoke, builtin, Sem.run_bind, Sem.run_pure, Result.andThen_ok, List.map_toArray, List.map_cons, List.map_nil, hs, hx, List.length_nil, hrun]
    exact h v w (by rw [List.append_nil]; exact hown) (Row.refl v w)
  | some ad =>
    refine wp_append_row s x t ho base e i z size bytes ht hi hz hsize hby hzs hsz v xs.length (xs.flatMap enc) hs hown ad ys.length c (ys.flatMap enc) hx (flatMap_len henc ys) ?_ ?_ hm hn hb ?_
    · intro j q hq
      have hj : j < ys.length * size := by
        have := (List.getElem?_eq_some_iff.1 hq).1
        rwa [flatMap_len henc] at this
      have hpos : 0 < ys.length := by
        rcases Nat.eq_zero_or_pos ys.length with h0 | h0
        · rw [h0] at hj; omega
        · exact h0
      obtain ⟨b, off, e, hcl⟩ := hcell hpos
      injection e with e
      subst e
      have hjd : j / size < ys.length := Nat.div_lt_of_lt_mul (by rw [Nat.mul_comm]; exact hj)
      have hdm : j / size * size + j % size = j := by rw [Nat.mul_comm]; exact Nat.div_add_mod j size
      have hq' : (enc ys[j / size])[j % size]? = some q := by
        have hlt : j % size < (enc ys[j / size]).length := by rw [henc]; exact Nat.mod_lt _ hsz
        have h2 := flatMap_at henc ys (j / size) hjd (j % size) _ (List.getElem?_eq_getElem hlt)
        rw [hdm, hq] at h2
        rw [List.getElem?_eq_getElem hlt, ← h2]
      have := hcl (j / size) hjd (j % size) q hq'
      rw [Nat.add_assoc, hdm] at this
      rw [Addr.add_lit]
      exact this
    · intro q hq
      obtain ⟨y, _, hy⟩ := List.mem_flatMap.1 hq
      exact h1 y q hy
    · intro v' w' ho' hr
      refine h v' w' ?_ hr
      show w'.ownsRow base e size v' (xs ++ ys).length ((xs ++ ys).flatMap enc)
      rw [List.length_append, List.flatMap_append]
      exact ho'
end
end Go.Proofs.Ytiogpainajokkaa

namespace Go.Proofs.Ytiogpainajokkaa
open Go.RowKit
theorem row_store {E : TypeId} {k n : Nat} {w : World} {base g cap : Nat} {xs : List Value} (h : w.ownsRow base E k (.slice (some ⟨g, 0, none⟩) n cap) n xs) (j : Nat) (u : Value) : (w.setCell ⟨g, j, none⟩ u).ownsRow base E k (.slice (some ⟨g, 0, none⟩) n cap) n (xs.set j u) := by
  obtain ⟨hl, h2⟩ := h
  rcases h2 with ⟨h2, _⟩ | ⟨g', cap', cur, hv, hg, hh, hnc, hcm, hcs, ht⟩
  · cases h2
  · cases hv
    refine ⟨by simpa using hl, .inr ⟨g, cap, cur.setIfInBounds j u, rfl, hg, ?_, hnc, hcm, by simpa using hcs, ?_⟩⟩
    · simp only [World.setCell, Array.getElem?_modify, if_true, hh, Option.map_some]
      rfl
    · rw [Array.toList_setIfInBounds, List.take_set, ht]
theorem flatMap_set {α : Type} {enc : α → List Value} {k : Nat} (hk : ∀ x, (enc x).length = k) (xs : List α) (j : Nat) (h : j < xs.length) (i : Nat) (hi : i < k) (y : α) (u : Value) (hy : enc y = (enc xs[j]).set i u) : (xs.flatMap enc).set (j * k + i) u = (xs.set j y).flatMap enc := by
  induction xs generalizing j with
  | nil => exact absurd h (by simp)
  | cons x l ih =>
    cases j with
    | zero =>
      rw [List.flatMap_cons, Nat.zero_mul, Nat.zero_add, List.set_append_left _ _ (by rw [hk]; exact hi), List.set_cons_zero, List.flatMap_cons, hy]
      rfl
    | succ j =>
      have e : (j + 1) * k + i - k = j * k + i := by rw [Nat.succ_mul]; omega
      rw [List.flatMap_cons, List.set_append_right _ _ (by rw [hk, Nat.succ_mul]; omega), hk, e, List.set_cons_succ, List.flatMap_cons, ih j (by simpa using h) (by simpa using hy)]
theorem Own.store {α : Type} {E : TypeId} {k : Nat} {enc : α → List Value} {w : World} {base g cap : Nat} {xs : List α} (hk : ∀ x, (enc x).length = k) (h : Own E k enc w base (.slice (some ⟨g, 0, none⟩) xs.length cap) xs) (j : Nat) (hj : j < xs.length) (i : Nat) (hi : i < k) (y : α) (u : Value) (hy : enc y = (enc xs[j]).set i u) :
    Own E k enc (w.setCell ⟨g, j * k + i, none⟩ u) base (.slice (some ⟨g, 0, none⟩) xs.length cap) (xs.set j y) := by
  have := row_store h (j * k + i) u
  rw [flatMap_set hk xs j hj i hi y u hy] at this
  show (w.setCell ⟨g, j * k + i, none⟩ u).ownsRow base E k _ (xs.set j y).length _
  rw [List.length_set]
  exact this
end Go.Proofs.Ytiogpainajokkaa

namespace Go.Proofs.Ytiogpainajokkaa
open Go.RowKit
structure GPlant where
  vars : List Int
  blocks : List GBlock
structure GMach where
  s : GPlant
  st : List Int
  at_ : Nat
  steps : Nat
def topI (st : List Int) : Int := st.getLastD 0
def joinsOp (o : Int) : Bool := (decide (4 ≤ o) && decide (o ≤ 11)) || decide (o = 13) || decide (o = 14)
/-- What a sign makes of two values. -/
def signB (o t x y : Int) : Int :=
  if o = 4 then wrapOf t (wrap64 (x + y)) else if o = 5 then wrapOf t (wrap64 (x - y)) else if o = 6 then wrapOf t (wrap64 (x * y))
  else if o = 7 then wrapOf t (wrap64 (x.tdiv y)) else if o = 8 then wrapOf t (x.tmod y) else if o = 9 then wrapOf t (bits .and .i64 x y)
  else if o = 10 then wrapOf t (bits .or .i64 x y) else if o = 11 then wrapOf t (bits .xor .i64 x y) else if o = 13 then (if x = y then 1 else 0) else (if x < y then 1 else 0)
def notI (t n : Int) : Int := if t = 1 then 1 - n else wrapOf t (-1 - n)
/-- A machine at X, its rows at V, B and S; w0 is the world in which its call began. -/
structure MSt (w0 W : World) (X : Nat) (c : GCode) (vs bs is : Value) (now : Int) (m : GMach) (V B S : Value) : Prop where
  row : W.heap[X]? = some (.cells #[.string c.name, vs, bs, is, V, B, S, .int .i64 (m.at_ : Int), .int .i64 (m.steps : Int), .int .i64 now] 112 (0, 0))
  oV : Own 2 1 oneI64 W w0.heap.size V m.s.vars
  oB : Own 67 10 encBlk W w0.heap.size B m.s.blocks
  oS : Own 2 1 oneI64 W w0.heap.size S m.st
  ne : ∀ k, V.ownBlock = some k → S.ownBlock ≠ some k
  old : CodeRd w0 c vs bs is
  bel : Below w0.heap.size w0 W
  lo : w0.heap.size ≤ X
variable {w0 W W' : World} {X : Nat} {c : GCode} {vs bs is : Value} {now : Int} {m : GMach} {V B S : Value}
theorem MSt.lt (h : MSt w0 W X c vs bs is now m V B S) : X < W.heap.size := (Array.getElem?_eq_some_iff.1 h.row).1
theorem MSt.below (h : MSt w0 W X c vs bs is now m V B S) (hb : Below W.heap.size W W') : MSt w0 W' X c vs bs is now m V B S :=
  ⟨(hb.block X h.lt).trans h.row, h.oV.below hb, h.oB.below hb, h.oS.below hb, h.ne, h.old, h.bel.trans (hb.mono h.bel.size), h.lo⟩
theorem i64_typ {W : World} {b : Nat} {v : Value} {xs : List Int} (h : Own 2 1 oneI64 W b v xs) {k : Nat} (hk : v.ownBlock = some k) : ∃ cur, W.heap[k]? = some (.cells cur 2 (0, 0)) := (own_typed h k hk).2
/-- A store into the machine's own row turns nothing else. -/
theorem MSt.cell (h : MSt w0 W X c vs bs is now m V B S) {m' : GMach} (hs : m'.s = m.s) (hst : m'.st = m.st) {j : Nat} {u : Value}
    (hr : (W.setCell ⟨X, j, none⟩ u).heap[X]? = some (.cells #[.string c.name, vs, bs, is, V, B, S, .int .i64 (m'.at_ : Int), .int .i64 (m'.steps : Int), .int .i64 now] 112 (0, 0))) : MSt w0 (W.setCell ⟨X, j, none⟩ u) X c vs bs is now m' V B S :=
  ⟨hr, by rw [hs]; exact h.oV.set h.row (by decide) j u, by rw [hs]; exact h.oB.set h.row (by decide) j u, by rw [hst]; exact h.oS.set h.row (by decide) j u, h.ne, h.old, h.bel.setCell (p := ⟨X, j, none⟩) h.lo u, h.lo⟩
/-- The stack is another row. -/
theorem MSt.stack (h : MSt w0 W X c vs bs is now m V B S) {m' : GMach} (hs : m'.s = m.s) (ha : m'.at_ = m.at_) (hn : m'.steps = m.steps) {S' : Value} (hr : Row S W S' W') (ho : Own 2 1 oneI64 W' w0.heap.size S' m'.st) :
    MSt w0 (W'.setCell ⟨X, 6, none⟩ S') X c vs bs is now m' V B S' := by
  have hX : some X ≠ S.ownBlock := fun e => by
    obtain ⟨cur, h2⟩ := i64_typ h.oS e.symm
    rw [h.row] at h2
    injection h2 with h2
    injection h2 with _ e2 _
    exact absurd e2 (by decide)
  have row1 : W'.heap[X]? = some (.cells #[.string c.name, vs, bs, is, V, B, S, .int .i64 (m'.at_ : Int), .int .i64 (m'.steps : Int), .int .i64 now] 112 (0, 0)) := by
    rw [hr.g.block X h.lt hX, h.row, ha, hn]
  have oV1 : Own 2 1 oneI64 W' w0.heap.size V m'.s.vars := by
    rw [hs]
    exact h.oV.row hr (fun b hb => h.ne b hb)
  have oB1 : Own 67 10 encBlk W' w0.heap.size B m'.s.blocks := by
    rw [hs]
    refine h.oB.row hr (fun b hb e => ?_)
    obtain ⟨_, cur, h2⟩ := own_typed h.oB b hb
    obtain ⟨cur', h3⟩ := i64_typ h.oS e
    rw [h2] at h3
    injection h3 with h3
    injection h3 with _ e2 _
    exact absurd e2 (by decide)
  refine ⟨set10_6 row1, oV1.set row1 (by decide) 6 S', oB1.set row1 (by decide) 6 S', ho.set row1 (by decide) 6 S', fun k hk e => ?_, h.old, (h.bel.grown hr.g h.bel.size (fun k hk => (World.ownsRow.lt h.oS k hk).1)).setCell (p := ⟨X, 6, none⟩) h.lo S', h.lo⟩
  rcases hr.b k e with h1 | h1
  · exact h.ne k hk h1
  · have := (World.ownsRow.lt h.oV k hk).2
    omega
theorem flat_i64 (xs : List Int) : xs.flatMap oneI64 = xs.map (fun x => Value.int .i64 x) := by
  induction xs with
  | nil => rfl
  | cons x l ih => rw [List.flatMap_cons, ih]; rfl
/-- A row of the call's own, cut. -/
theorem own_cut {W : World} {b : Nat} {A : Option Addr} {n q : Nat} {xs : List Int} (h : Own 2 1 oneI64 W b (.slice A n q) xs) (k : Nat) (hk : k ≤ xs.length) (hp : 0 < xs.length) : Own 2 1 oneI64 W b (.slice A k q) (xs.take k) := by
  obtain ⟨h1, h2⟩ := h
  have hl : (xs.take k).length = k := by rw [List.length_take]; omega
  rcases h2 with ⟨_, h0⟩ | ⟨g, cap, cur, hv, hg, hh, hn, hm, hs, hx⟩
  · omega
  · injection hv with e1 e2 e3
    subst e1 e3
    refine ⟨by rw [flatMap_len oneI64_len], .inr ⟨g, q, cur, by rw [hl], hg, hh, by omega, hm, hs, ?_⟩⟩
    rw [hl, flat_i64, List.map_take, ← flat_i64, ← hx, List.take_take]
    congr 1
    omega
/-- A value stored into a row of the call's own. -/
theorem own_put {W : World} {b : Nat} {A : Option Addr} {n q : Nat} {xs : List Int} (h : Own 2 1 oneI64 W b (.slice A n q) xs) (k : Nat) (hk : k < xs.length) (x : Int) : ∃ g, A = some ⟨g, 0, none⟩ ∧ n = xs.length ∧ b ≤ g ∧ W.frozen? ⟨g, k, none⟩ = false ∧ W.cell? ⟨g, k, none⟩ = some (.int .i64 (xs.getD k 0)) ∧ Own 2 1 oneI64 (W.setCell ⟨g, k, none⟩ (.int .i64 x)) b (.slice A n q) (xs.set k x) := by
  have hc := fun g => World.ownsRow.cells (g := g) h
  obtain ⟨h1, h2⟩ := h
  rcases h2 with ⟨_, h0⟩ | ⟨g, cap, cur, hv, hg, hh, hn, hm, hs, hx⟩
  · omega
  · injection hv with e1 e2 e3
    subst e1 e2 e3
    have hcell := hc g rfl k (.int .i64 xs[k]) (by rw [flat_i64]; simp [hk])
    rw [add_plain] at hcell
    refine ⟨g, rfl, rfl, hg, frozen_of_row W g k _ _ hh, ?_, by rw [flatMap_len oneI64_len], .inr ⟨g, q, cur.set! k (.int .i64 x), by rw [List.length_set], hg, ?_, by rw [List.length_set]; exact hn, hm, by simpa using hs, ?_⟩⟩
    · rw [hcell, List.getD_eq_getElem?_getD, List.getElem?_eq_getElem hk]; rfl
    · rw [heap_setCell_same W g k _ _ _ hh]
      simp
    · rw [List.length_set, flat_i64, List.map_set, ← flat_i64, ← hx]
      simp
      apply List.ext_getElem?
      intro i
      by_cases hi : i < xs.length
      · rw [List.getElem?_take_of_lt hi, List.getElem?_set, List.getElem?_set, List.getElem?_take_of_lt hi]
        by_cases e : k = i
        · subst e
          have h1 : k < cur.toList.length := by simp; omega
          have h2 : k < (cur.toList.take xs.length).length := by rw [List.length_take]; omega
          rw [if_pos rfl, if_pos rfl, if_pos h1, if_pos h2]
        · rw [if_neg e, if_neg e]
      · rw [List.getElem?_eq_none (by rw [List.length_take]; omega), List.getElem?_eq_none (by rw [List.length_set, List.length_take]; omega)]
end Go.Proofs.Ytiogpainajokkaa

namespace Go.Proofs.Ytiogpainajokkaa
open Go.RowKit
theorem i64_info : ∃ i, Try.prog.info? 2 = some i ∧ i.zero = some (.int .i64 0) ∧ i.size = 1 ∧ i.bytes = 8 := by
  have h : (Try.prog.info? 2).map (fun i => (i.zero, i.size, i.bytes)) = some (some (.int .i64 0), 1, 8) := by kernel_rfl
  obtain ⟨i, h1, h2⟩ := Option.map_eq_some_iff.1 h
  simp only [Prod.mk.injEq] at h2
  exact ⟨i, h1, h2.1, h2.2.1, h2.2.2⟩
theorem oneI64_one (x : Int) : ∀ u ∈ oneI64 x, u.oneCell' = true := by
  intro u hu
  simp only [oneI64, List.mem_cons, List.not_mem_nil, or_false] at hu
  subst hu
  rfl
theorem run_headI (W : World) (a : Addr) (n c d : Nat) (h : d ≤ c) (hc : 0 < c) (ha : a = ⟨a.block, 0, none⟩) : (Instr.slice 31 (.slice (some a) n c) none (some (.int .i64 (d : Int))) none).run Try.prog W = .ok (.slice (some a) d c) W := by
  have ht : Try.prog.underlying 31 = some (.slice (Try.prog.elem 31)) := by kernel_rfl
  have hs : (Go.sizeOf (Try.prog.elem 31)).run Try.prog W = .ok 1 W := by kernel_rfl
  rw [run_slice_h W _ _ _ _ ht .i64 _ (by omega) (by omega), hs]
  have e : a.add 0 = a := by rw [ha]; exact add_plain _ _
  have h0 : ¬ c = 0 := by omega
  simp [Result.andThen, sliced, e, h0]
/-- What else lies in memory stays. -/
def Keeps (w w' : World) : Prop := w.heap.size ≤ w'.heap.size ∧ ∀ (k : Nat) (cs : Array Value) (T : TypeId), w.heap[k]? = some (Obj.cells cs T (0, 0)) → T ≠ 2 → T ≠ 112 → w'.heap[k]? = some (Obj.cells cs T (0, 0))
theorem Keeps.of_below {w w' : World} (h : Below w.heap.size w w') : Keeps w w' := ⟨h.size, fun k _ _ hk _ _ => (h.block k (Array.getElem?_eq_some_iff.1 hk).1).trans hk⟩
theorem Keeps.trans {a b c : World} (h : Keeps a b) (k : Keeps b c) : Keeps a c := ⟨Nat.le_trans h.1 k.1, fun i cs T hi h1 h2 => k.2 i cs T (h.2 i cs T hi h1 h2) h1 h2⟩
theorem MSt.keeps {w0 W : World} {X : Nat} {c : GCode} {vs bs is : Value} {now : Int} {m : GMach} {V B S : Value} (h : MSt w0 W X c vs bs is now m V B S) {W' : World} {S' : Value} (hr : Row S W S' W') (u : Value) : Keeps W (W'.setCell ⟨X, 6, none⟩ u) := by
  refine ⟨by simpa using hr.g.size, fun k cs T hk h1 h2 => ?_⟩
  have e1 : W'.heap[k]? = W.heap[k]? := hr.g.block k (Array.getElem?_eq_some_iff.1 hk).1 (fun e => by
    obtain ⟨cur, h3⟩ := i64_typ h.oS e.symm
    rw [hk] at h3
    injection h3 with h3
    injection h3 with _ e2 _
    exact h1 e2)
  have e2 : k ≠ X := fun e => by
    subst e
    rw [h.row] at hk
    injection hk with hk
    injection hk with _ e2 _
    exact h2 e2.symm
  rw [Below.heap_setCell _ ⟨X, 6, none⟩ u k e2, e1]
  exact hk
/-- What push and pop leave: another stack. -/
def StPost (w0 w : World) (X : Nat) (c : GCode) (vs bs is : Value) (now : Int) (m : GMach) (V B : Value) (v : Value) (e : Ending) (w' : World) : Prop := e = .returned v ∧ ∃ S', MSt w0 w' X c vs bs is now m V B S' ∧ Keeps w w'
def StPost1 (w0 : World) (X : Nat) (c : GCode) (vs bs is : Value) (now : Int) (m : GMach) (V B : Value) (v : Value) (e : Ending) (w' : World) : Prop := e = .returned v ∧ ∃ S', MSt w0 w' X c vs bs is now m V B S'
set_option maxHeartbeats 1000000 in
set_option maxRecDepth 100000 in
theorem push_any (w0 w : World) (X : Nat) (c : GCode) (vs bs is : Value) (now : Int) (m : GMach) (V B S : Value) (h : MSt w0 w X c vs bs is now m V B S) (hl : m.st.length ≤ 1000) (n : Int) :
    Calls Try.prog 79 #[.pointer (some ⟨X, 0, none⟩), .int .i64 n] w (StPost w0 w X c vs bs is now { m with st := m.st ++ [n] } V B (.tuple #[])) := by
  obtain ⟨i0, hi, hz0, hz1, hz2⟩ := i64_info
  obtain ⟨A, q, rfl⟩ := h.oS.slice2
  have H := Fact.mk h
  obtain ⟨c0, c1, c2, c3, c4, c5, c6, c7, c8, c9, f0, f1, f2, f3, f4, f5, f6, f7, f8, f9⟩ := row10 h.row
  have hlt := h.lt
  have hbs := h.bel.size
  clear h c0 c1 c2 c3 c4 c5 c7 c8 c9 f0 f1 f2 f3 f4 f5 f7 f8 f9
  go_enter Try.func79, Try.ntmps79
  go_wp2_with (at_builtin; refine wpList_pushR rfl _ _ 31 rfl w0.heap.size 2 i0 (.int .i64 0) 1 8 Try.underlying31 hi hz0 hz1 hz2 rfl (by decide) (by decide) oneI64 _ m.st rfl H.out.oS n rfl rfl (oneI64_one _) (by omega) hbs ?_)
  intro v' W' ho' hr'
  obtain ⟨A', n', q', rfl⟩ := ho'.slice
  have M := Fact.mk (H.out.stack (m' := { m with st := m.st ++ [n] }) rfl rfl rfl hr' ho')
  have KP := Fact.mk (H.out.keeps hr' (.slice A' n' q'))
  have hX : some X ≠ (Value.slice A m.st.length q).ownBlock := fun e => by
    obtain ⟨cur, h2⟩ := i64_typ H.out.oS e.symm
    rw [H.out.row] at h2
    injection h2 with h2
    injection h2 with _ e2 _
    exact absurd e2 (by decide)
  have row1 := (hr'.g.block X hlt hX).trans H.out.row
  obtain ⟨-, -, -, -, -, -, d6, -, -, -, -, -, -, -, -, -, g6, -, -, -⟩ := row10 row1
  clear ho' hr' row1 c6 f6 hX
  go_wp2
  go_end0
  exact ⟨rfl, _, M.out, KP.out⟩
set_option maxHeartbeats 1000000 in
set_option maxRecDepth 100000 in
theorem pop_any (w0 w : World) (X : Nat) (c : GCode) (vs bs is : Value) (now : Int) (m : GMach) (V B S : Value) (h : MSt w0 w X c vs bs is now m V B S) (hl : m.st.length ≤ 1000) (s : List Int) (x : Int) (hs : m.st = s ++ [x]) :
    Calls Try.prog 80 #[.pointer (some ⟨X, 0, none⟩)] w (StPost w0 w X c vs bs is now { m with st := s } V B (.int .i64 x)) := by
  obtain ⟨A, q, rfl⟩ := h.oS.slice2
  have hpos : 0 < m.st.length := by rw [hs]; simp
  have hsl : m.st.length = s.length + 1 := by rw [hs]; simp
  have hcut := own_cut h.oS s.length (by omega) hpos
  obtain ⟨g, hA, _, hgb, _, hcx, _⟩ := own_put h.oS s.length (by omega) 0
  have htk : m.st.take s.length = s := by rw [hs, List.take_left' rfl]
  have hx : m.st.getD s.length 0 = x := by rw [hs, List.getD_eq_getElem?_getD, List.getElem?_append_right (Nat.le_refl _), Nat.sub_self]; rfl
  rw [htk] at hcut
  rw [hx] at hcx
  subst hA
  have hq : s.length ≤ q ∧ 0 < q := by
    obtain ⟨_, h2⟩ := h.oS
    rcases h2 with ⟨e, _⟩ | ⟨g, cap, cur, hv, _, _, hn, _⟩
    · cases e
    · injection hv with _ _ e3
      subst e3
      omega
  have HD := fun W => run_headI W ⟨g, 0, none⟩ m.st.length q s.length hq.1 hq.2 rfl
  have H := Fact.mk h
  have M : Fact (MSt w0 (w.setCell ⟨X, 6, none⟩ (.slice (some ⟨g, 0, none⟩) s.length q)) X c vs bs is now { m with st := s } V B (.slice (some ⟨g, 0, none⟩) s.length q)) := ⟨h.stack (m' := { m with st := s }) rfl rfl rfl ⟨⟨rfl, rfl, rfl, Nat.le_refl _, fun _ _ _ => rfl⟩, fun k hk => .inl hk⟩ hcut⟩
  obtain ⟨c0, c1, c2, c3, c4, c5, c6, c7, c8, c9, f0, f1, f2, f3, f4, f5, f6, f7, f8, f9⟩ := row10 h.row
  have KP := Fact.mk (H.out.keeps (Row.refl (.slice (some ⟨g, 0, none⟩) m.st.length q) w) (.slice (some ⟨g, 0, none⟩) s.length q))
  have e1 : (m.st.length : Int) - 1 = (s.length : Int) := by omega
  have i1 : (s.length : Int) < (m.st.length : Int) := by omega
  clear h c0 c1 c2 c3 c4 c5 c7 c8 c9 f0 f1 f2 f3 f4 f5 f7 f8 f9 hcut hs htk hx
  go_enter Try.func80, Try.ntmps80
  go_wp2
  go_ret
  exact ⟨rfl, _, M.out, KP.out⟩
end Go.Proofs.Ytiogpainajokkaa

namespace Go.Proofs.Ytiogpainajokkaa
open Go.RowKit
theorem MSt.tick {w0 W : World} {X : Nat} {c : GCode} {vs bs is : Value} {now : Int} {m : GMach} {V B S : Value} (h : MSt w0 W X c vs bs is now m V B S) :
    MSt w0 ((W.setCell ⟨X, 8, none⟩ (.int .i64 ((m.steps : Int) + 1))).setCell ⟨X, 7, none⟩ (.int .i64 ((m.at_ : Int) + 1))) X c vs bs is now ⟨m.s, m.st, m.at_ + 1, m.steps + 1⟩ V B S :=
  (h.cell (m' := ⟨m.s, m.st, m.at_, m.steps + 1⟩) rfl rfl (set10_8 h.row)).cell (m' := ⟨m.s, m.st, m.at_ + 1, m.steps + 1⟩) rfl rfl (set10_7 (set10_8 h.row))
theorem MSt.goto {w0 W : World} {X : Nat} {c : GCode} {vs bs is : Value} {now : Int} {m : GMach} {V B S : Value} (h : MSt w0 W X c vs bs is now m V B S) (k : Nat) :
    MSt w0 (W.setCell ⟨X, 7, none⟩ (.int .i64 (k : Int))) X c vs bs is now ⟨m.s, m.st, k, m.steps⟩ V B S :=
  h.cell (m' := ⟨m.s, m.st, k, m.steps⟩) rfl rfl (set10_7 h.row)
/-- A store into the machine's own variables. -/
theorem MSt.putVar {w0 W : World} {X : Nat} {c : GCode} {vs bs is : Value} {now : Int} {m : GMach} {V B S : Value} (h : MSt w0 W X c vs bs is now m V B S) (a : Nat) (ha : a < m.s.vars.length) (x : Int) :
    ∃ g q, V = .slice (some ⟨g, 0, none⟩) m.s.vars.length q ∧ W.frozen? ⟨g, a, none⟩ = false ∧ W.cell? ⟨g, a, none⟩ = some (.int .i64 (m.s.vars.getD a 0)) ∧ g < W.heap.size ∧ X ≠ g ∧
      MSt w0 (W.setCell ⟨g, a, none⟩ (.int .i64 x)) X c vs bs is now ⟨⟨m.s.vars.set a x, m.s.blocks⟩, m.st, m.at_, m.steps⟩ V B S := by
  obtain ⟨A, q, rfl⟩ := h.oV.slice2
  obtain ⟨g, rfl, _, hb, hf, hc, ho⟩ := own_put h.oV a ha x
  obtain ⟨cur, hg⟩ := i64_typ h.oV (k := g) rfl
  have hX : X ≠ g := fun e => by
    subst e
    have h2 := hg
    rw [h.row] at h2
    injection h2 with h2
    injection h2 with _ e2 _
    exact absurd e2 (by decide)
  have hS : ∀ b, S.ownBlock = some b → b ≠ g := fun b hb2 e => h.ne g rfl (e ▸ hb2)
  have old : ∀ b, b ≠ g → (W.setCell ⟨g, a, none⟩ (.int .i64 x)).heap[b]? = W.heap[b]? := fun b hne => Below.heap_setCell W ⟨g, a, none⟩ _ b hne
  exact ⟨g, q, rfl, hf, hc, (Array.getElem?_eq_some_iff.1 hg).1, hX, (old X hX).trans h.row, ho, h.oB.set hg (by decide) a _, h.oS.move (fun b hb2 => old b (hS b hb2)), h.ne, h.old, h.bel.setCell (p := ⟨g, a, none⟩) hb _, h.lo⟩
theorem blks_set (xs : List GBlock) (j : Nat) (h : j < xs.length) (b : GBlock) :
    ((((((((((xs.flatMap encBlk).set (j * 10) (.int .u8 b.kind)).set (j * 10 + 1) (.bool b.w0)).set (j * 10 + 2) (.bool b.w1)).set (j * 10 + 3) (.bool b.ran)).set (j * 10 + 4) (.bool b.going)).set (j * 10 + 5) (.int .i64 b.frm)).set (j * 10 + 6) (.int .i64 b.et)).set (j * 10 + 7) (.int .i64 b.cv)).set (j * 10 + 8) (.bool b.q)).set (j * 10 + 9) (.bool b.p) = (xs.set j b).flatMap encBlk := by
  induction xs generalizing j with
  | nil => exact absurd h (by simp)
  | cons x l ih =>
    cases j with
    | zero => rfl
    | succ j =>
      rw [show (j + 1) * 10 = j * 10 + 10 by omega, show j * 10 + 10 + 1 = j * 10 + 1 + 10 by omega, show j * 10 + 10 + 2 = j * 10 + 2 + 10 by omega, show j * 10 + 10 + 3 = j * 10 + 3 + 10 by omega, show j * 10 + 10 + 4 = j * 10 + 4 + 10 by omega, show j * 10 + 10 + 5 = j * 10 + 5 + 10 by omega, show j * 10 + 10 + 6 = j * 10 + 6 + 10 by omega, show j * 10 + 10 + 7 = j * 10 + 7 + 10 by omega, show j * 10 + 10 + 8 = j * 10 + 8 + 10 by omega, show j * 10 + 10 + 9 = j * 10 + 9 + 10 by omega]
      exact congrArg (encBlk x ++ ·) (ih j (by simpa using h))
/-- A whole block stored at an address. -/
def setBlk (W : World) (g o : Nat) (b : GBlock) : World := (((((((((W.setCell ⟨g, o, none⟩ (.int .u8 b.kind)).setCell ⟨g, o + 1, none⟩ (.bool b.w0)).setCell ⟨g, o + 2, none⟩ (.bool b.w1)).setCell ⟨g, o + 3, none⟩ (.bool b.ran)).setCell ⟨g, o + 4, none⟩ (.bool b.going)).setCell ⟨g, o + 5, none⟩ (.int .i64 b.frm)).setCell ⟨g, o + 6, none⟩ (.int .i64 b.et)).setCell ⟨g, o + 7, none⟩ (.int .i64 b.cv)).setCell ⟨g, o + 8, none⟩ (.bool b.q)).setCell ⟨g, o + 9, none⟩ (.bool b.p)
theorem grown_setBlk (W : World) (g o : Nat) (b : GBlock) : W.grownBy (setBlk W g o b) (some g) :=
  grown_trans (grown_trans (grown_trans (grown_trans (grown_trans (grown_trans (grown_trans (grown_trans (grown_trans (grown_set _ _ _ _) (grown_set _ _ _ _)) (grown_set _ _ _ _)) (grown_set _ _ _ _)) (grown_set _ _ _ _)) (grown_set _ _ _ _)) (grown_set _ _ _ _)) (grown_set _ _ _ _)) (grown_set _ _ _ _)) (grown_set _ _ _ _)
theorem own_setBlk {W : World} {base g n q : Nat} {xs : List GBlock} (h : Own 67 10 encBlk W base (.slice (some ⟨g, 0, none⟩) n q) xs) (j : Nat) (hj : j < xs.length) (b : GBlock) : Own 67 10 encBlk (setBlk W g (j * 10) b) base (.slice (some ⟨g, 0, none⟩) n q) (xs.set j b) := by
  obtain rfl : n = xs.length := by
    rcases h.2 with ⟨e, _⟩ | ⟨_, _, _, e, _⟩ <;> cases e
    rfl
  have := row_store (row_store (row_store (row_store (row_store (row_store (row_store (row_store (row_store (row_store h (j * 10) (.int .u8 b.kind)) (j * 10 + 1) (.bool b.w0)) (j * 10 + 2) (.bool b.w1)) (j * 10 + 3) (.bool b.ran)) (j * 10 + 4) (.bool b.going)) (j * 10 + 5) (.int .i64 b.frm)) (j * 10 + 6) (.int .i64 b.et)) (j * 10 + 7) (.int .i64 b.cv)) (j * 10 + 8) (.bool b.q)) (j * 10 + 9) (.bool b.p)
  rw [blks_set xs j hj b] at this
  show (setBlk W g (j * 10) b).ownsRow base 67 10 _ (xs.set j b).length _
  rw [List.length_set]
  exact this
theorem blk_row {W : World} {base : Nat} {v : Value} {xs : List GBlock} (h : Own 67 10 encBlk W base v xs) (j : Nat) (hj : j < xs.length) : ∃ g q cs, v = .slice (some ⟨g, 0, none⟩) xs.length q ∧ base ≤ g ∧ W.heap[g]? = some (.cells cs 67 (0, 0)) ∧
    (∀ i u, (encBlk (xs.getD j (newB 0)))[i]? = some u → W.cell? ⟨g, j * 10 + i, none⟩ = some u) := by
  have hc := fun g => World.ownsRow.cells (g := g) h
  rcases h.2 with ⟨rfl, h0⟩ | ⟨g, cap, cur, rfl, hg, hh, hn, hm, _⟩
  · omega
  · refine ⟨g, cap, cur, rfl, hg, hh, fun i u hu => ?_⟩
    rw [List.getD_eq_getElem?_getD, List.getElem?_eq_getElem hj] at hu
    have := hc g rfl (j * 10 + i) u (flatMap_at encBlk_len xs j hj i u hu)
    rwa [add_plain] at this
/-- A block stored into the machine's own. -/
theorem MSt.putBlk {w0 W : World} {X : Nat} {c : GCode} {vs bs is : Value} {now : Int} {m : GMach} {V B S : Value} (h : MSt w0 W X c vs bs is now m V B S) (a : Nat) (ha : a < m.s.blocks.length) :
    ∃ g q cs, B = .slice (some ⟨g, 0, none⟩) m.s.blocks.length q ∧ W.heap[g]? = some (.cells cs 67 (0, 0)) ∧ X ≠ g ∧ (∀ i u, (encBlk (m.s.blocks.getD a (newB 0)))[i]? = some u → W.cell? ⟨g, a * 10 + i, none⟩ = some u) ∧
      ∀ b, MSt w0 (setBlk W g (a * 10) b) X c vs bs is now ⟨⟨m.s.vars, m.s.blocks.set a b⟩, m.st, m.at_, m.steps⟩ V B S := by
  obtain ⟨g, q, cs, rfl, hb, hg, hc⟩ := blk_row h.oB a ha
  have hX : X ≠ g := fun e => by
    subst e
    have h2 := hg
    rw [h.row] at h2
    injection h2 with h2
    injection h2 with _ e2 _
    exact absurd e2 (by decide)
  have hI : ∀ {v : Value} {xs : List Int}, Own 2 1 oneI64 W w0.heap.size v xs → ∀ b, v.ownBlock = some b → b ≠ g := fun ho b hb2 e => by
    subst e
    obtain ⟨cur, h2⟩ := i64_typ ho hb2
    rw [hg] at h2
    injection h2 with h2
    injection h2 with _ e2 _
    exact absurd e2 (by decide)
  refine ⟨g, q, cs, rfl, hg, hX, hc, fun b => ?_⟩
  have hG := grown_setBlk W g (a * 10) b
  have old : ∀ k, k < W.heap.size → k ≠ g → (setBlk W g (a * 10) b).heap[k]? = W.heap[k]? := fun k hk hne => hG.block k hk (fun e => hne (by cases e; rfl))
  have mv : ∀ {v : Value} {xs : List Int}, Own 2 1 oneI64 W w0.heap.size v xs → Own 2 1 oneI64 (setBlk W g (a * 10) b) w0.heap.size v xs := fun ho => ho.move fun k hk => by
    obtain ⟨cur, h2⟩ := i64_typ ho hk
    exact old k (Array.getElem?_eq_some_iff.1 h2).1 (hI ho k hk)
  exact ⟨(old X h.lt hX).trans h.row, mv h.oV, own_setBlk h.oB a ha b, mv h.oS, h.ne, h.old, h.bel.grown hG h.bel.size (fun k hk => by cases hk; exact hb), h.lo⟩
end Go.Proofs.Ytiogpainajokkaa

