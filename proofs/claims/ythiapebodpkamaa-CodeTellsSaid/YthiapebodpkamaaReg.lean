/- A region that draws its order, whose operations put values into slots, make rows and append to them: one list of claims, each shown where it is made and kept elsewhere. -/
import Derived.Test.YthiapebodpkamaaLit
import Derived.Test.YthiapebodpkamaaGrow
namespace Go.Proofs.Ythiapebodpkamaa
open Go.RowKit
inductive Spec
  | val (v : Value)
  | row (E : TypeId) (k n : Nat) (cs : List Value)
  | box (T : TypeId) (cs : Array Value)
  | pred (S : World → Value → Prop)
def Spec.holds (B0 : Nat) (w : World) (s : Spec) (v : Value) : Prop :=
  match s with
  | .val v0 => v = v0
  | .row E k n cs => w.ownsRow B0 E k v n cs
  | .box T cs => ∃ g, v = .pointer (some ⟨g, 0, none⟩) ∧ B0 ≤ g ∧ w.heap[g]? = some (.cells cs T (0, 0))
  | .pred S => S w v
def Spec.Fine (s : Spec) : Prop :=
  match s with
  | .pred S => ∀ w w' v, Below w.heap.size w w' → S w v → S w' v
  | _ => True
theorem row_move {E : TypeId} {k n : Nat} {w w' : World} {base : Nat} {v : Value} {xs : List Value} (h : w.ownsRow base E k v n xs) (hm : ∀ b, v.ownBlock = some b → w'.heap[b]? = w.heap[b]?) : w'.ownsRow base E k v n xs := by
  obtain ⟨h1, h2⟩ := h
  refine ⟨h1, ?_⟩
  rcases h2 with h2 | ⟨g, cap, cur, rfl, hg, hh, r⟩
  · exact .inl h2
  · exact .inr ⟨g, cap, cur, rfl, hg, (hm g rfl).trans hh, r⟩
theorem row_grow {E E' : TypeId} {k n : Nat} {w w' : World} {base : Nat} {v : Value} {xs : List Value} (h : w.ownsRow base E k v n xs) (g : Grow base E' w w') (hne : E ≠ E') : w'.ownsRow base E k v n xs :=
  row_move h fun b hb => by
    obtain ⟨_, cur, h2⟩ := own_typed h b hb
    exact (g.other h2 hne).trans h2.symm
theorem row_below {E : TypeId} {k n : Nat} {w w' : World} {base : Nat} {v : Value} {xs : List Value} (h : w.ownsRow base E k v n xs) (hb : Below w.heap.size w w') : w'.ownsRow base E k v n xs :=
  row_move h fun b hb' => by
    obtain ⟨_, cur, h2⟩ := own_typed h b hb'
    exact hb.block b (Array.getElem?_eq_some_iff.1 h2).1
theorem row_new0 (w : World) (B0 : Nat) (h : B0 ≤ w.heap.size) (E : TypeId) (k : Nat) : (w.alloc (.cells #[] E)).ownsRow B0 E k (.slice (some ⟨w.heap.size, 0, none⟩) 0 0) 0 [] :=
  ⟨by simp, .inr ⟨w.heap.size, 0, #[], rfl, h, heap_alloc_new w _, Nat.le_refl _, Nat.zero_le _, by simp, by simp⟩⟩
theorem set4_0 {w : World} {g : Nat} {a b c d u : Value} {T : TypeId} {fr : Nat × Nat} (h : w.heap[g]? = some (.cells #[a, b, c, d] T fr)) : (w.setCell ⟨g, 0, none⟩ u).heap[g]? = some (.cells #[u, b, c, d] T fr) := by
  simp only [World.setCell, Array.getElem?_modify, if_true, h, Option.map_some]
  rfl
theorem set4_1 {w : World} {g : Nat} {a b c d u : Value} {T : TypeId} {fr : Nat × Nat} (h : w.heap[g]? = some (.cells #[a, b, c, d] T fr)) : (w.setCell ⟨g, 1, none⟩ u).heap[g]? = some (.cells #[a, u, c, d] T fr) := by
  simp only [World.setCell, Array.getElem?_modify, if_true, h, Option.map_some]
  rfl
theorem set4_2 {w : World} {g : Nat} {a b c d u : Value} {T : TypeId} {fr : Nat × Nat} (h : w.heap[g]? = some (.cells #[a, b, c, d] T fr)) : (w.setCell ⟨g, 2, none⟩ u).heap[g]? = some (.cells #[a, b, u, d] T fr) := by
  simp only [World.setCell, Array.getElem?_modify, if_true, h, Option.map_some]
  rfl
theorem set4_3 {w : World} {g : Nat} {a b c d u : Value} {T : TypeId} {fr : Nat × Nat} (h : w.heap[g]? = some (.cells #[a, b, c, d] T fr)) : (w.setCell ⟨g, 3, none⟩ u).heap[g]? = some (.cells #[a, b, c, u] T fr) := by
  simp only [World.setCell, Array.getElem?_modify, if_true, h, Option.map_some]
  rfl
theorem arr_lits (A : Array Value) (n : Nat) (h : A.size = n) : A = ((List.range n).map fun i => A.getD i undef).toArray := by
  subst h
  apply Array.ext_getElem?
  intro i
  by_cases hi : i < A.size
  · simp [hi]
  · simp [hi]
/-- What an operation does to memory: it makes new blocks, or it appends to a row of element type E. -/
inductive Chg (B0 : Nat) (w w' : World) : Option TypeId → Prop
  | new : Below w.heap.size w w' → Chg B0 w w' none
  | app {E : TypeId} : Grow B0 E w w' → Chg B0 w w' (some E)
abbrev Claim := Nat × List Nat × Nat × Spec
/-- May the claim x be broken by operation i, that appends to type t? -/
def okB (D : List (Nat × Nat)) (t : Option TypeId) (i : Nat) (x : Claim) : Bool :=
  x.1 == i || x.2.1.contains i || (match t with
    | none => true
    | some E => match x.2.2.2 with
      | .val _ => true
      | .row E' _ _ _ => E' != E
      | .box T _ => T != E
      | .pred _ => D.contains (x.1, i))
def slB (D : List (Nat × Nat)) (i d : Nat) (x : Claim) : Bool := x.1 == i || x.2.2.1 != d || D.contains (x.1, i)
theorem Spec.keep {B0 : Nat} {w w' : World} {s : Spec} {v : Value} (hf : s.Fine) (h : s.holds B0 w v) (hw : Below w.heap.size w w') : s.holds B0 w' v := by
  cases s with
  | val v0 => exact h
  | row E k n cs => exact row_below h hw
  | box T cs =>
    obtain ⟨g, h1, h2, h3⟩ := h
    exact ⟨g, h1, h2, by rw [hw.block g (Array.getElem?_eq_some_iff.1 h3).1]; exact h3⟩
  | pred S => exact hf _ _ _ hw h
structure RegSt (F : List Claim) (D : List (Nat × Nat)) (fix : List (Nat × Value)) (B0 : Nat) (w0 : World) (n : Nat) (b : Nat → Bool) (a : Act) (w : World) : Prop where
  defers : a.defers = []
  size : a.tmps.size = n
  fixed : ∀ x ∈ fix, a.eval (.tmp x.1) = x.2
  bel : Below B0 w0 w
  f : ∀ x ∈ F, b x.1 = true → (∀ c ∈ x.2.1, b c = false) → x.2.2.2.holds B0 w (a.eval (.tmp x.2.2.1))
  dep : ∀ y ∈ D, b y.1 = true → b y.2 = true
section
variable {F : List Claim} {D : List (Nat × Nat)} {fix : List (Nat × Value)} {B0 : Nat} {w0 : World} {n : Nat} {b : Nat → Bool} {a : Act} {w : World}
theorem RegSt.got (h : RegSt F D fix B0 w0 n b a w) {i d : Nat} {cs : List Nat} {s : Spec} (hx : (i, cs, d, s) ∈ F) (hb : b i = true) (hc : ∀ c ∈ cs, b c = false) : s.holds B0 w (a.eval (.tmp d)) := h.f _ hx hb hc
theorem RegSt.put (h : RegSt F D fix B0 w0 n b a w) (i d : Nat) (v : Value) {w' : World} (t : Option TypeId) (hB : B0 ≤ w0.heap.size) (hF : ∀ x ∈ F, x.2.2.2.Fine) (hb : b i = false)
    (hc : Chg B0 w w' t) (hok : F.all (okB D t i) = true) (hsl : F.all (slB D i d) = true) (hfix : fix.all (fun x => x.1 != d) = true) (hd : d < n) (hD : ∀ y ∈ D, y.1 = i → b y.2 = true)
    (hs : ∀ x ∈ F, x.1 = i → x.2.2.1 = d ∧ x.2.2.2.holds B0 w' v) : RegSt F D fix B0 w0 n (ub b i) (a.put (some d) v) w' where
  defers := h.defers
  size := by simpa [Act.put] using h.size
  fixed x hx := by
    have := List.all_eq_true.1 hfix x hx
    rw [eval_put_ne (by simpa using this)]; exact h.fixed x hx
  bel := by
    have hle := Nat.le_trans hB h.bel.size
    cases hc with
    | new hw => exact h.bel.trans (hw.mono hle)
    | app hg => exact hg.below h.bel hle
  f x hx hbx hcs := by
    by_cases e : x.1 = i
    · obtain ⟨h1, h2⟩ := hs x hx e
      rw [h1, eval_put_self (by rw [h.size]; exact hd)]
      exact h2
    · rw [ub_ne e] at hbx
      have hni : i ∉ x.2.1 := fun hm => by have := hcs i hm; rw [ub_self] at this; cases this
      have hcs' : ∀ c ∈ x.2.1, b c = false := fun c hc' => by
        have := hcs c hc'
        cases hbc : b c with
        | false => rfl
        | true => rw [ub_of hbc] at this; cases this
      have hk := h.f x hx hbx hcs'
      have hs1 := List.all_eq_true.1 hsl x hx
      simp only [slB, Bool.or_eq_true, beq_iff_eq, bne_iff_ne] at hs1
      have hs2 : x.2.2.1 ≠ d := by
        rcases hs1 with (h1 | h1) | h1
        · exact absurd h1 e
        · exact h1
        · have := h.dep _ (List.contains_iff_mem.1 h1) hbx
          rw [hb] at this; cases this
      rw [eval_put_ne hs2]
      have ho := List.all_eq_true.1 hok x hx
      simp only [okB, Bool.or_eq_true, beq_iff_eq] at ho
      have ho' := ho.resolve_left (fun hh => hh.elim e (fun hm => hni (List.contains_iff_mem.1 hm)))
      cases hc with
      | new hw => exact Spec.keep (hF x hx) hk hw
      | app hg =>
        obtain ⟨x1, x2, x3, s⟩ := x
        cases s with
        | val v0 => exact hk
        | row E k m cs => exact row_grow hk hg (by simpa using ho')
        | box T cs =>
          obtain ⟨g, g1, g2, g3⟩ := hk
          exact ⟨g, g1, g2, hg.other g3 (by simpa using ho')⟩
        | pred S =>
          have := h.dep _ (List.contains_iff_mem.1 ho') hbx
          rw [hb] at this; cases this
  dep y hy hby := by
    by_cases e : y.1 = i
    · exact ub_of (hD y hy e)
    · rw [ub_ne e] at hby
      exact ub_of (h.dep y hy hby)
/-- The last operation, behind which one claim alone is left. -/
theorem RegSt.fin (h : RegSt F D fix B0 w0 n b a w) (i : Nat) {w' : World} (hbel : Below B0 w0 w') (hcons : F.all (fun x => x.1 == i || x.2.1.contains i) = true) (hD : ∀ y ∈ D, y.1 = i → b y.2 = true)
    (hs : ∀ x ∈ F, x.1 = i → x.2.2.2.holds B0 w' (a.eval (.tmp x.2.2.1))) : RegSt F D fix B0 w0 n (ub b i) a w' where
  defers := h.defers
  size := h.size
  fixed := h.fixed
  bel := hbel
  f x hx hbx hcs := by
    by_cases e : x.1 = i
    · exact hs x hx e
    · have := List.all_eq_true.1 hcons x hx
      simp only [Bool.or_eq_true, beq_iff_eq] at this
      have hm := List.contains_iff_mem.1 (this.resolve_left e)
      have := hcs i hm
      rw [ub_self] at this; cases this
  dep y hy hby := by
    by_cases e : y.1 = i
    · exact ub_of (hD y hy e)
    · rw [ub_ne e] at hby
      exact ub_of (h.dep y hy hby)
end
section
variable {P : Program} {α : Type} {o : Oper} {a : Act} {Q : Exit → Act → World → Prop} {K : Act → World → Prop}
theorem wp_append_row {w : World} (s x : Operand) (t : TypeId) (ho : o.op = .call { callee := .builtin .append, args := #[s, x], argTypes := #[t, t] })
    (base : Nat) (e : TypeId) (i : TypeInfo) (z : Value) (size bytes : Nat) (ht : P.underlying t = some (.slice e)) (hi : P.info? e = some i) (hz : i.zero = some z)
    (hsize : i.size = size) (hby : i.bytes = bytes) (hzs : z.cells.size = size) (hsz : 0 < size)
    (v : Value) (n : Nat) (xs : List Value) (hs : a.eval s = v) (hown : w.ownsRow base e size v n xs)
    (ad : Addr) (m c : Nat) (news : List Value) (hx : a.eval x = .slice (some ad) m c) (hl : news.length = m * size) (hnews : ∀ j u, news[j]? = some u → w.cell? (ad.add j) = some u) (h1 : ∀ u ∈ news, u.oneCell' = true)
    (h63 : n + m ≤ maxLen) (hbytes : (n + m) * bytes ≤ 140737488355328) (hbase : base ≤ w.heap.size)
    (h : ∀ v' w', w'.ownsRow base e size v' (n + m) (xs ++ news) → Row v w v' w' → K (a.put o.dst v') w') : o.wp P a w K Q := by
  obtain ⟨v', w', hr, h2, h3, _⟩ := run_append_own (P := P) w base t o.type e i z size bytes ht hi hz hsize hby hzs hsz v n xs hown ad m c news hl hnews h1 h63 hbytes hbase
  have hb := append_block (P := P) w base t o.type e i z size bytes ht hi hz hsize hby v n xs hown ad m c news hl hnews h1 h63 hbytes v' w' hr
  unfold Oper.wp execOp
  simp only [ho, resolve, invoke, builtin, Sem.run_bind, Sem.run_pure, Result.andThen_ok, List.map_toArray, List.map_cons, List.map_nil, hs, hx, hr]
  exact h v' w' h2 ⟨h3, hb⟩
theorem wp_append_rd {w : World} (s x : Operand) (t : TypeId)
    (ho : o.op = .call { callee := .builtin .append, args := #[s, x], argTypes := #[t, t] })
    (base : Nat) (e : TypeId) (i : TypeInfo) (z : Value) (size bytes : Nat) (ht : P.underlying t = some (.slice e)) (hi : P.info? e = some i) (hz : i.zero = some z)
    (hsize : i.size = size) (hby : i.bytes = bytes) (hzs : z.cells.size = size) (hsz : 0 < size) (hb0 : 0 < bytes) (enc : α → List Value) (henc : ∀ y, (enc y).length = size) (h1 : ∀ y, ∀ u ∈ enc y, u.oneCell' = true)
    (v : Value) (xs : List α) (hs : a.eval s = v) (hown : Own e size enc w base v xs) (u : Value) (ys : List α) (hx : a.eval x = u) (hr : Rd enc size w u ys)
    (hn : (xs.length + ys.length) * bytes ≤ 140737488355328) (hb : base ≤ w.heap.size)
    (h : ∀ v' w', Own e size enc w' base v' (xs ++ ys) → Row v w v' w' → K (a.put o.dst v') w') : o.wp P a w K Q := by
  have hm : xs.length + ys.length ≤ maxLen := by
    have := Nat.le_trans (Nat.le_mul_of_pos_right (xs.length + ys.length) hb0) hn
    simp only [maxLen]; omega
  obtain ⟨_, A, c, rfl, _, hnil, hcell⟩ := hr
  cases A with
  | none =>
    have hc := hnil rfl
    subst hc
    have hy : ys = [] := by
      cases ys with
      | nil => rfl
      | cons y l =>
        obtain ⟨_, _, e, _⟩ := hcell (by simp)
        cases e
    subst hy
    have hrun := run_append_owned_none (P := P) w base t o.type e i size ht hi v xs.length (xs.flatMap enc) hown
    unfold Oper.wp execOp
    simp only [ho, resolve, invoke, builtin, Sem.run_bind, Sem.run_pure, Result.andThen_ok, List.map_toArray, List.map_cons, List.map_nil, hs, hx, List.length_nil, hrun]
    exact h v w (by rw [List.append_nil]; exact hown) (Row.refl v w)
  | some ad =>
    refine wp_append_row s x t ho base e i z size bytes ht hi hz hsize hby hzs hsz v xs.length (xs.flatMap enc) hs hown ad ys.length c (ys.flatMap enc) hx (flatMap_len henc ys) ?_ ?_ hm hn hb ?_
    · intro j q hq
      have hj : j < ys.length * size := by
        have := (List.getElem?_eq_some_iff.1 hq).1
        rwa [flatMap_len henc] at this
      have hpos : 0 < ys.length := by
        rcases Nat.eq_zero_or_pos ys.length with h0 | h0
        · rw [h0] at hj; omega
        · exact h0
      obtain ⟨b, off, e, hcl⟩ := hcell hpos
      injection e with e
      subst e
      have hjd : j / size < ys.length := Nat.div_lt_of_lt_mul (by rw [Nat.mul_comm]; exact hj)
      have hdm : j / size * size + j % size = j := by rw [Nat.mul_comm]; exact Nat.div_add_mod j size
      have hq' : (enc ys[j / size])[j % size]? = some q := by
        have hlt : j % size < (enc ys[j / size]).length := by rw [henc]; exact Nat.mod_lt _ hsz
        have h2 := flatMap_at henc ys (j / size) hjd (j % size) _ (List.getElem?_eq_getElem hlt)
        rw [hdm, hq] at h2
        rw [List.getElem?_eq_getElem hlt, ← h2]
      have := hcl (j / size) hjd (j % size) q hq'
      rw [Nat.add_assoc, hdm] at this
      rw [Addr.add_lit]
      exact this
    · intro q hq
      obtain ⟨y, _, hy⟩ := List.mem_flatMap.1 hq
      exact h1 y q hy
    · intro v' w' ho' hr
      refine h v' w' ?_ hr
      show w'.ownsRow base e size v' (xs ++ ys).length ((xs ++ ys).flatMap enc)
      rw [List.length_append, List.flatMap_append]
      exact ho'
end
end Go.Proofs.Ythiapebodpkamaa

