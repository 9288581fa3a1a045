/- The world behind appends to rows of one element type. -/
import Derived.Test.YthiapebodpkamaaWords
namespace Go.Proofs.Ythiapebodpkamaa
open Go.RowKit
/-- Of what was there, rows of elements of type E from block base on may have changed, and nothing else. -/
structure Grow (base : Nat) (E : TypeId) (w w' : World) : Prop where
  os : w'.os = w.os
  tape : w'.tape = w.tape
  output : w'.output = w.output
  size : w.heap.size ≤ w'.heap.size
  block : ∀ k, k < w.heap.size → (k < base ∨ ∀ cur, w.heap[k]? ≠ some (.cells cur E (0, 0))) → w'.heap[k]? = w.heap[k]?
theorem Grow.refl (base : Nat) (E : TypeId) (w : World) : Grow base E w w := ⟨rfl, rfl, rfl, Nat.le_refl _, fun _ _ _ => rfl⟩
theorem Grow.trans {base : Nat} {E : TypeId} {a b c : World} (h : Grow base E a b) (k : Grow base E b c) : Grow base E a c :=
  ⟨k.os.trans h.os, k.tape.trans h.tape, k.output.trans h.output, Nat.le_trans h.size k.size, fun i hi hc => by
    have e := h.block i hi hc
    exact (k.block i (Nat.lt_of_lt_of_le hi h.size) (hc.imp id fun hn cur => by rw [e]; exact hn cur)).trans e⟩
theorem Grow.of_below {base : Nat} {E : TypeId} {w w' : World} (h : Below w.heap.size w w') : Grow base E w w' := ⟨h.os, h.tape, h.output, h.size, fun k hk _ => h.block k hk⟩
theorem own_typed {w : World} {base : Nat} {e : TypeId} {size n : Nat} {v : Value} {xs : List Value} (h : w.ownsRow base e size v n xs) (k : Nat) (hk : v.ownBlock = some k) : base ≤ k ∧ ∃ cells, w.heap[k]? = some (.cells cells e (0, 0)) := by
  rcases h.2 with ⟨rfl, _⟩ | ⟨g, cap, cur, rfl, hb, hh, r⟩
  · simp [Value.ownBlock] at hk
  · have : g = k := by simpa [Value.ownBlock] using hk
    subst this
    exact ⟨hb, cur, hh⟩
theorem Grow.of_grown {base : Nat} {E : TypeId} {size n : Nat} {v : Value} {xs : List Value} {w w' : World} (h : w.ownsRow base E size v n xs) (hg : w.grownBy w' v.ownBlock) : Grow base E w w' :=
  ⟨hg.os, hg.tape, hg.output, hg.size, fun k hk hc => hg.block k hk (fun e => by
    obtain ⟨h1, cur, h2⟩ := own_typed h k e.symm
    rcases hc with hc | hc
    · omega
    · exact hc cur h2)⟩
theorem Grow.below {base : Nat} {E : TypeId} {w0 w w' : World} (h : Grow base E w w') (h0 : Below base w0 w) (hb : base ≤ w.heap.size) : Below base w0 w' :=
  h0.trans ⟨h.os, h.tape, h.output, h.size, fun k hk => h.block k (by omega) (.inl hk)⟩
/-- A block of another kind stays. -/
theorem Grow.other {base : Nat} {E : TypeId} {w w' : World} (h : Grow base E w w') {k : Nat} {cs : Array Value} {T : TypeId} {fr : Nat × Nat} (hk : w.heap[k]? = some (.cells cs T fr)) (hT : T ≠ E) : w'.heap[k]? = some (.cells cs T fr) := by
  rw [h.block k (Array.getElem?_eq_some_iff.1 hk).1 (.inr fun cur e => by rw [hk] at e; injection e with e; injection e with _ e2 _; exact hT e2)]
  exact hk
theorem Own.move {α : Type} {E : TypeId} {k : Nat} {enc : α → List Value} {w w' : World} {base : Nat} {v : Value} {xs : List α} (h : Own E k enc w base v xs) (hm : ∀ b, v.ownBlock = some b → w'.heap[b]? = w.heap[b]?) : Own E k enc w' base v xs := by
  obtain ⟨h1, h2⟩ := h
  refine ⟨h1, ?_⟩
  rcases h2 with h2 | ⟨g, cap, cur, rfl, hg, hh, r⟩
  · exact .inl h2
  · exact .inr ⟨g, cap, cur, rfl, hg, (hm g rfl).trans hh, r⟩
/-- A store into a block of another element type. -/
theorem Own.set {α : Type} {E : TypeId} {k : Nat} {enc : α → List Value} {w : World} {base : Nat} {v : Value} {xs : List α} (h : Own E k enc w base v xs) {g : Nat} {cs : Array Value} {T : TypeId} {fr : Nat × Nat} (hk : w.heap[g]? = some (.cells cs T fr)) (hT : T ≠ E) (j : Nat) (u : Value) : Own E k enc (w.setCell ⟨g, j, none⟩ u) base v xs :=
  h.move fun b hb => by
    obtain ⟨_, cur, h2⟩ := own_typed h b hb
    refine Below.heap_setCell w ⟨g, j, none⟩ u b (fun e => ?_)
    have e' : b = g := e
    subst e'
    rw [hk] at h2
    injection h2 with h2
    injection h2 with _ e2 _
    exact hT e2
/-- Where an append leaves its row: in its block, or in a new one. -/
theorem append_block {P : Program} (w : World) (base : Nat) (t ty e : TypeId) (i : TypeInfo) (z : Value) (size bytes : Nat) (ht : P.underlying t = some (.slice e)) (hi : P.info? e = some i) (hz : i.zero = some z)
    (hsize : i.size = size) (hby : i.bytes = bytes) (v : Value) (n : Nat) (xs : List Value) (hown : w.ownsRow base e size v n xs)
    (a : Addr) (m c : Nat) (news : List Value) (hl : news.length = m * size) (hnews : ∀ j u, news[j]? = some u → w.cell? (a.add j) = some u) (h1 : ∀ u ∈ news, u.oneCell' = true)
    (h63 : n + m ≤ maxLen) (hbytes : (n + m) * bytes ≤ 140737488355328) (v' : Value) (w' : World) (hrun : (Builtin.append_ #[t, t] ty #[v, .slice (some a) m c]).run P w = .ok v' w') :
    ∀ k, v'.ownBlock = some k → v.ownBlock = some k ∨ w.heap.size ≤ k := by
  subst hsize
  subst hby
  intro k hk
  rcases hown.2 with ⟨rfl, rfl⟩ | ⟨g, cap, cur, rfl, _, hg, hnc, hcm, hcs, _⟩
  · have hx : xs = [] := List.eq_nil_of_length_eq_zero (by simpa using hown.1)
    subst hx
    by_cases hm : m = 0
    · subst hm
      have hn : news = [] := List.eq_nil_of_length_eq_zero (by simpa using hl)
      subst hn
      have hr : (Builtin.append_ #[t, t] ty #[.slice none 0 0, .slice (some a) 0 c]).run P w = .ok (.slice none 0 0) w := by
        simp [Builtin.append_, run_underlying ht, sizeOf, typeInfo, hi, Builtin.lenOf, Builtin.firstCells, loadCells, loadCellsFrom]
      rw [hr] at hrun
      injection hrun with h2 _
      subst h2
      simp [Value.ownBlock] at hk
    · have hr := run_append_nil (P := P) w t ty e i z ht hi hz a m c news hl hnews (by omega) (by simp only [maxLen] at h63; omega) (by have hb := hbytes; simp only [Nat.zero_add] at hb; omega)
      rw [hr] at hrun
      injection hrun with h2 _
      subst h2
      simp [Value.ownBlock] at hk
      exact .inr (by omega)
  · by_cases hroom : n + m ≤ cap
    · have hfit : n * i.size + news.length ≤ cur.size := by rw [hl, hcs, ← Nat.add_mul]; exact Nat.mul_le_mul_right _ hroom
      have hr := run_append_room (P := P) w t ty e i ht hi g n cap cur hg a m c news hl hnews h1 hroom hfit
      rw [hr] at hrun
      injection hrun with h2 _
      subst h2
      exact .inl hk
    · have holds : ∀ j u, xs[j]? = some u → w.cell? ((⟨g, 0, none⟩ : Addr).add j) = some u := hown.cells (g := g) rfl
      have hr := run_append_grow (P := P) w t ty e i z ht hi hz ⟨g, 0, none⟩ n cap xs hown.1 holds a m c news hl hnews (by omega) (by simp only [maxLen] at h63; omega) (growslice_fits (by omega) hbytes)
      rw [hr] at hrun
      injection hrun with h2 _
      subst h2
      simp [Value.ownBlock] at hk
      exact .inr (by omega)
/-- The row v of w has become the row v' of w'; no other block of w has turned. -/
structure Row (v : Value) (w : World) (v' : Value) (w' : World) : Prop where
  g : w.grownBy w' v.ownBlock
  b : ∀ k, v'.ownBlock = some k → v.ownBlock = some k ∨ w.heap.size ≤ k
theorem Row.refl (v : Value) (w : World) : Row v w v w := ⟨⟨rfl, rfl, rfl, Nat.le_refl _, fun _ _ _ => rfl⟩, fun _ h => .inl h⟩
theorem Row.trans {v v1 v2 : Value} {w w1 w2 : World} (h : Row v w v1 w1) (k : Row v1 w1 v2 w2) : Row v w v2 w2 := by
  refine ⟨⟨k.g.os.trans h.g.os, k.g.tape.trans h.g.tape, k.g.output.trans h.g.output, Nat.le_trans h.g.size k.g.size, fun i hi hn => ?_⟩, fun i hi => ?_⟩
  · refine (k.g.block i (Nat.lt_of_lt_of_le hi h.g.size) (fun e => ?_)).trans (h.g.block i hi hn)
    rcases h.b i e.symm with h1 | h1
    · exact hn h1.symm
    · omega
  · rcases k.b i hi with h1 | h1
    · exact h.b i h1
    · exact .inr (Nat.le_trans h.g.size h1)
theorem Row.alloc {v v' : Value} {w w' : World} {o : Obj} (h : Row v (w.alloc o) v' w') : Row v w v' w' :=
  ⟨grown_trans (World.grownBy_alloc w o _) h.g, fun k hk => by
    have hs : (w.alloc o).heap.size = w.heap.size + 1 := by simp
    rcases h.b k hk with h1 | h1
    · exact .inl h1
    · exact .inr (by omega)⟩
theorem Row.grow {base : Nat} {E : TypeId} {size n : Nat} {v v' : Value} {xs : List Value} {w w' : World} (h : Row v w v' w') (ho : w.ownsRow base E size v n xs) : Grow base E w w' := Grow.of_grown ho h.g
/-- What is read in other blocks is read as before. -/
theorem Rd.row {α : Type} {enc : α → List Value} {k : Nat} {w w' : World} {u : Value} {ys : List α} (h : Rd enc k w u ys) {v v' : Value} (hr : Row v w v' w') (hne : ∀ b, u.ownBlock = some b → v.ownBlock ≠ some b) : Rd enc k w' u ys := by
  obtain ⟨h0, A, c, rfl, h2, h4, h3⟩ := h
  refine ⟨h0, A, c, rfl, h2, h4, fun hp => ?_⟩
  obtain ⟨b, off, rfl, hc⟩ := h3 hp
  exact ⟨b, off, rfl, fun j hj i q hq => hr.g.cell (hc j hj i q hq) (fun e => hne b rfl e.symm)⟩
theorem Own.row {α : Type} {E : TypeId} {k : Nat} {enc : α → List Value} {w w' : World} {base : Nat} {u : Value} {ys : List α} (h : Own E k enc w base u ys) {v v' : Value} (hr : Row v w v' w') (hne : ∀ b, u.ownBlock = some b → v.ownBlock ≠ some b) : Own E k enc w' base u ys :=
  h.move fun b hb => by
    obtain ⟨_, cur, h2⟩ := own_typed h b hb
    exact hr.g.block b (Array.getElem?_eq_some_iff.1 h2).1 (fun e => hne b hb e.symm)
section
variable {P : Program} {α : Type} {ops : Array Oper} {rest : List Oper} {o : Oper} {a : Act} {Q : Exit → Act → World → Prop}
theorem wpList_append_row {w : World} (hgd : o.guard = none) (s x : Operand) (t : TypeId) (ho : o.op = .call { callee := .builtin .append, args := #[s, x], argTypes := #[t, t] })
    (base : Nat) (e : TypeId) (i : TypeInfo) (z : Value) (size bytes : Nat) (ht : P.underlying t = some (.slice e)) (hi : P.info? e = some i) (hz : i.zero = some z)
    (hsize : i.size = size) (hby : i.bytes = bytes) (hzs : z.cells.size = size) (hsz : 0 < size)
    (v : Value) (n : Nat) (xs : List Value) (hs : a.eval s = v) (hown : w.ownsRow base e size v n xs)
    (ad : Addr) (m c : Nat) (news : List Value) (hx : a.eval x = .slice (some ad) m c) (hl : news.length = m * size) (hnews : ∀ j u, news[j]? = some u → w.cell? (ad.add j) = some u) (h1 : ∀ u ∈ news, u.oneCell' = true)
    (h63 : n + m ≤ maxLen) (hbytes : (n + m) * bytes ≤ 140737488355328) (hbase : base ≤ w.heap.size)
    (h : ∀ v' w', w'.ownsRow base e size v' (n + m) (xs ++ news) → Row v w v' w' → wpList P ops Q rest (a.put o.dst v') w') : wpList P ops Q (o :: rest) a w := by
  refine wpList_plain hgd fun K hK => ?_
  obtain ⟨v', w', hr, h2, h3, _⟩ := run_append_own (P := P) w base t o.type e i z size bytes ht hi hz hsize hby hzs hsz v n xs hown ad m c news hl hnews h1 h63 hbytes hbase
  have hb := append_block (P := P) w base t o.type e i z size bytes ht hi hz hsize hby v n xs hown ad m c news hl hnews h1 h63 hbytes v' w' hr
  unfold Oper.wp execOp
  simp only [ho, resolve, invoke, builtin, Sem.run_bind, Sem.run_pure, Result.andThen_ok, List.map_toArray, List.map_cons, List.map_nil, hs, hx, hr]
  exact hK _ _ (h v' w' h2 ⟨h3, hb⟩)
/-- One element appended (its cells lie in a block that was just laid), and where the row is then. -/
theorem wpList_pushR {wr : World} (hgd : o.guard = none) (s x : Operand) (t : TypeId) (ho : o.op = .call { callee := .builtin .append, args := #[s, x], argTypes := #[t, t] })
    (base : Nat) (e : TypeId) (i : TypeInfo) (z : Value) (size bytes : Nat) (ht : P.underlying t = some (.slice e)) (hi : P.info? e = some i) (hz : i.zero = some z)
    (hsize : i.size = size) (hby : i.bytes = bytes) (hzs : z.cells.size = size) (hsz : 0 < size) (hb0 : 0 < bytes) (enc : α → List Value)
    (v : Value) (xs : List α) (hs : a.eval s = v) (hown : Own e size enc wr base v xs) (y : α)
    (hx : a.eval x = .slice (some ⟨wr.heap.size, 0, none⟩) 1 1) (hl : (enc y).length = size) (h1 : ∀ u ∈ enc y, u.oneCell' = true)
    (hn : (xs.length + 1) * bytes ≤ 140737488355328) (hb : base ≤ wr.heap.size)
    (h : ∀ v' w', Own e size enc w' base v' (xs ++ [y]) → Row v wr v' w' → wpList P ops Q rest (a.put o.dst v') w') : wpList P ops Q (o :: rest) a (wr.alloc (.cells (enc y).toArray e)) := by
  have hm : xs.length + 1 ≤ maxLen := by
    have := Nat.le_trans (Nat.le_mul_of_pos_right (xs.length + 1) hb0) hn
    simp only [maxLen]; omega
  have hown' : (wr.alloc (.cells (enc y).toArray e)).ownsRow base e size v xs.length (xs.flatMap enc) := World.ownsRow.alloc hown _
  refine wpList_append_row hgd s x t ho base e i z size bytes ht hi hz hsize hby hzs hsz v xs.length (xs.flatMap enc) hs hown' ⟨wr.heap.size, 0, none⟩ 1 1 (enc y) hx (by rw [hl]; omega) ?_ h1 hm hn (by simp; omega) ?_
  · intro j u hu
    rw [add_plain, cell_of_row (wr.alloc (.cells (enc y).toArray e)) wr.heap.size j (enc y).toArray e (0, 0) (heap_alloc_new wr _)]
    simpa using hu
  · intro v' w' ho' hr
    refine h v' w' ?_ hr.alloc
    show w'.ownsRow base e size v' (xs ++ [y]).length ((xs ++ [y]).flatMap enc)
    rw [List.length_append, List.flatMap_append]
    simpa using ho'
/-- A whole slice appended that can be read. -/
theorem wpList_append_rd {w : World} (hgd : o.guard = none) (s x : Operand) (t : TypeId)
    (ho : o.op = .call { callee := .builtin .append, args := #[s, x], argTypes := #[t, t] })
    (base : Nat) (e : TypeId) (i : TypeInfo) (z : Value) (size bytes : Nat) (ht : P.underlying t = some (.slice e)) (hi : P.info? e = some i) (hz : i.zero = some z)
    (hsize : i.size = size) (hby : i.bytes = bytes) (hzs : z.cells.size = size) (hsz : 0 < size) (hb0 : 0 < bytes) (enc : α → List Value) (henc : ∀ y, (enc y).length = size) (h1 : ∀ y, ∀ u ∈ enc y, u.oneCell' = true)
    (v : Value) (xs : List α) (hs : a.eval s = v) (hown : Own e size enc w base v xs) (u : Value) (ys : List α) (hx : a.eval x = u) (hr : Rd enc size w u ys)
    (hn : (xs.length + ys.length) * bytes ≤ 140737488355328) (hb : base ≤ w.heap.size)
    (h : ∀ v' w', Own e size enc w' base v' (xs ++ ys) → Row v w v' w' → wpList P ops Q rest (a.put o.dst v') w') : wpList P ops Q (o :: rest) a w := by
  have hm : xs.length + ys.length ≤ maxLen := by
    have := Nat.le_trans (Nat.le_mul_of_pos_right (xs.length + ys.length) hb0) hn
    simp only [maxLen]; omega
  obtain ⟨_, A, c, rfl, _, hnil, hcell⟩ := hr
  cases A with
  | none =>
    have hc := hnil rfl
    subst hc
    have hy : ys = [] := by
      cases ys with
      | nil => rfl
      | cons y l =>
        obtain ⟨_, _, e, _⟩ := hcell (by simp)
        cases e
    subst hy
    have hrun := run_append_owned_none (P := P) w base t o.type e i size ht hi v xs.length (xs.flatMap enc) hown
    refine wpList_plain hgd fun K hK => ?_
    unfold Oper.wp execOp
    simp only [ho, resolve, invoke, builtin, Sem.run_bind, Sem.run_pure, Result.andThen_ok, List.map_toArray, List.map_cons, List.map_nil, hs, hx, List.length_nil, hrun]
    exact hK _ _ (h v w (by rw [List.append_nil]; exact hown) (Row.refl v w))
  | some ad =>
    refine wpList_append_row hgd s x t ho base e i z size bytes ht hi hz hsize hby hzs hsz v xs.length (xs.flatMap enc) hs hown ad ys.length c (ys.flatMap enc) hx (flatMap_len henc ys) ?_ ?_ hm hn hb ?_
    · intro j q hq
      have hj : j < ys.length * size := by
        have := (List.getElem?_eq_some_iff.1 hq).1
        rwa [flatMap_len henc] at this
      have hpos : 0 < ys.length := by
        rcases Nat.eq_zero_or_pos ys.length with h0 | h0
        · rw [h0] at hj; omega
        · exact h0
      obtain ⟨b, off, e, hcl⟩ := hcell hpos
      injection e with e
      subst e
      have hjd : j / size < ys.length := Nat.div_lt_of_lt_mul (by rw [Nat.mul_comm]; exact hj)
      have hdm : j / size * size + j % size = j := by rw [Nat.mul_comm]; exact Nat.div_add_mod j size
      have hq' : (enc ys[j / size])[j % size]? = some q := by
        have hlt : j % size < (enc ys[j / size]).length := by rw [henc]; exact Nat.mod_lt _ hsz
        have h2 := flatMap_at henc ys (j / size) hjd (j % size) _ (List.getElem?_eq_getElem hlt)
        rw [hdm, hq] at h2
        rw [List.getElem?_eq_getElem hlt, ← h2]
      have := hcl (j / size) hjd (j % size) q hq'
      rw [Nat.add_assoc, hdm] at this
      rw [Addr.add_lit]
      exact this
    · intro q hq
      obtain ⟨y, _, hy⟩ := List.mem_flatMap.1 hq
      exact h1 y q hy
    · intro v' w' ho' hr
      refine h v' w' ?_ hr
      show w'.ownsRow base e size v' (xs ++ ys).length ((xs ++ ys).flatMap enc)
      rw [List.length_append, List.flatMap_append]
      exact ho'
end
end Go.Proofs.Ythiapebodpkamaa

