/- Two lists of types: are they one? -/
import Derived.Test.YtiogpainajokkaaBaseM
import Derived.Test.YtiogpainajokkaaProg
import Derived.Outline
import Derived.Deep.QuietTactic
import Derived.BigQuiet
import Derived.Lib.SliceRun
import Derived.Test.YtiogpainajokkaaChkPM
import Derived.Test.YtiogpainajokkaaRightM
import Derived.Deep.RegionWith
import Derived.Deep.DeepCutAuto
import Derived.IntWalk
namespace Go.Proofs.Ytiogpainajokkaa
open Go.RowKit
/-- A bool is told; nothing has changed but the count of draws. -/
def EqPost (w : World) (r : Bool) (e : Ending) (w' : World) : Prop := e = .returned (.bool r) ∧ ∃ q, w' = w.drewN q
set_option maxHeartbeats 800000 in
set_option maxRecDepth 100000 in
theorem eq8_any (w : World) (v1 v2 : Value) (xs ys : List Int) (h1 : Rd oneU8 1 w v1 xs) (h2 : Rd oneU8 1 w v2 ys) :
    Calls Try.prog 121 #[v1, v2] w (EqPost w (decide (xs = ys))) := by
  obtain ⟨l1, A1, c1, rfl, hc1, _, r1⟩ := h1
  obtain ⟨l2, A2, c2, rfl, hc2, _, r2⟩ := h2
  have R1 := Fact.mk r1
  have R2 := Fact.mk r2
  clear r1 r2
  by_cases hl : xs.length = ys.length
  · go_enter Try.func121, Try.ntmps121
    go_wp2_with fail
    go_loopw [13] (fun i wr => ∃ k q : Nat, k ≤ xs.length ∧ i = .int .i64 k ∧ wr = w.drewN q ∧ Fact (xs.take k = ys.take k)) (fun i _ => xs.length - (intOf i).toNat)
    case atStart => exact ⟨0, 0, Nat.zero_le _, rfl, rfl, ⟨rfl⟩⟩
    case round =>
      obtain ⟨k, q, hk, rfl, rfl, hB⟩ := hrel
      by_cases hlt : k < xs.length
      · obtain ⟨b1, o1, rfl, q1⟩ := R1.out (by omega)
        obtain ⟨b2, o2, rfl, q2⟩ := R2.out (by omega)
        have p1 : w.cell? ⟨b1, o1 + k, none⟩ = some (.int .u8 xs[k]) := by
          have := q1 k hlt 0 _ rfl
          rwa [show o1 + k * 1 + 0 = o1 + k from by omega] at this
        have hlt2 : k < ys.length := by omega
        have p2 : w.cell? ⟨b2, o2 + k, none⟩ = some (.int .u8 ys[k]) := by
          have := q2 k hlt2 0 _ rfl
          rwa [show o2 + k * 1 + 0 = o2 + k from by omega] at this
        clear q1 q2
        have i1 : (k : Int) < (xs.length : Int) := by omega
        have i2 : (k : Int) < (ys.length : Int) := by omega
        go_wp2_with fail
        go_quiet (fail)
        clear p1 p2
        by_cases he : xs[k] = ys[k]
        · have e1 : (xs[k] != ys[k]) = false := by simp [he]
          rw [e1]
          go_wp2_with fail
          go_roundw
          case rel =>
            refine ⟨k + 1, q + nq, by omega, by go_num, rfl, ⟨?_⟩⟩
            rw [List.take_succ_eq_append_getElem hlt, List.take_succ_eq_append_getElem hlt2, hB.out, he]
          case measure => simp [intOf]; omega
        · have e1 : (xs[k] != ys[k]) = true := by simpa using he
          rw [e1]
          go_wp2_with fail
          go_ret
          refine ⟨ret_bool ?_, q + nq, by simp⟩
          exact (decide_eq_false (fun h => he (by subst h; rfl))).symm
      · obtain rfl : k = xs.length := by omega
        go_wp2_with fail
        go_ret
        refine ⟨ret_bool ?_, q, rfl⟩
        have h := hB.out
        rw [List.take_length] at h
        rw [hl, List.take_length] at h
        exact (decide_eq_true h).symm
  · go_enter Try.func121, Try.ntmps121
    go_wp2_with fail
    go_ret
    refine ⟨ret_bool ?_, 0, rfl⟩
    exact (decide_eq_false (fun h => hl (by rw [h]))).symm
end Go.Proofs.Ytiogpainajokkaa

namespace Go.Proofs.Ytiogpainajokkaa
open Go.RowKit
/-- Of what was there, rows of elements of type E from block base on may have changed, and nothing else. -/
structure Grow (base : Nat) (E : TypeId) (w w' : World) : Prop where
  os : w'.os = w.os
  tape : w'.tape = w.tape
  output : w'.output = w.output
  size : w.heap.size ≤ w'.heap.size
  block : ∀ k, k < w.heap.size → (k < base ∨ ∀ cur, w.heap[k]? ≠ some (.cells cur E (0, 0))) → w'.heap[k]? = w.heap[k]?
theorem Grow.refl (base : Nat) (E : TypeId) (w : World) : Grow base E w w := ⟨rfl, rfl, rfl, Nat.le_refl _, fun _ _ _ => rfl⟩
theorem Grow.trans {base : Nat} {E : TypeId} {a b c : World} (h : Grow base E a b) (k : Grow base E b c) : Grow base E a c :=
  ⟨k.os.trans h.os, k.tape.trans h.tape, k.output.trans h.output, Nat.le_trans h.size k.size, fun i hi hc => by
    have e := h.block i hi hc
    exact (k.block i (Nat.lt_of_lt_of_le hi h.size) (hc.imp id fun hn cur => by rw [e]; exact hn cur)).trans e⟩
theorem Grow.of_below {base : Nat} {E : TypeId} {w w' : World} (h : Below w.heap.size w w') : Grow base E w w' := ⟨h.os, h.tape, h.output, h.size, fun k hk _ => h.block k hk⟩
theorem own_typed {w : World} {base : Nat} {e : TypeId} {size n : Nat} {v : Value} {xs : List Value} (h : w.ownsRow base e size v n xs) (k : Nat) (hk : v.ownBlock = some k) : base ≤ k ∧ ∃ cells, w.heap[k]? = some (.cells cells e (0, 0)) := by
  rcases h.2 with ⟨rfl, _⟩ | ⟨g, cap, cur, rfl, hb, hh, r⟩
  · simp [Value.ownBlock] at hk
  · have : g = k := by simpa [Value.ownBlock] using hk
    subst this
    exact ⟨hb, cur, hh⟩
theorem Grow.of_grown {base : Nat} {E : TypeId} {size n : Nat} {v : Value} {xs : List Value} {w w' : World} (h : w.ownsRow base E size v n xs) (hg : w.grownBy w' v.ownBlock) : Grow base E w w' :=
  ⟨hg.os, hg.tape, hg.output, hg.size, fun k hk hc => hg.block k hk (fun e => by
    obtain ⟨h1, cur, h2⟩ := own_typed h k e.symm
    rcases hc with hc | hc
    · omega
    · exact hc cur h2)⟩
theorem Grow.below {base : Nat} {E : TypeId} {w0 w w' : World} (h : Grow base E w w') (h0 : Below base w0 w) (hb : base ≤ w.heap.size) : Below base w0 w' :=
  h0.trans ⟨h.os, h.tape, h.output, h.size, fun k hk => h.block k (by omega) (.inl hk)⟩
/-- A block of another kind stays. -/
theorem Grow.other {base : Nat} {E : TypeId} {w w' : World} (h : Grow base E w w') {k : Nat} {cs : Array Value} {T : TypeId} {fr : Nat × Nat} (hk : w.heap[k]? = some (.cells cs T fr)) (hT : T ≠ E) : w'.heap[k]? = some (.cells cs T fr) := by
  rw [h.block k (Array.getElem?_eq_some_iff.1 hk).1 (.inr fun cur e => by rw [hk] at e; injection e with e; injection e with _ e2 _; exact hT e2)]
  exact hk
theorem Own.move {α : Type} {E : TypeId} {k : Nat} {enc : α → List Value} {w w' : World} {base : Nat} {v : Value} {xs : List α} (h : Own E k enc w base v xs) (hm : ∀ b, v.ownBlock = some b → w'.heap[b]? = w.heap[b]?) : Own E k enc w' base v xs := by
  obtain ⟨h1, h2⟩ := h
  refine ⟨h1, ?_⟩
  rcases h2 with h2 | ⟨g, cap, cur, rfl, hg, hh, r⟩
  · exact .inl h2
  · exact .inr ⟨g, cap, cur, rfl, hg, (hm g rfl).trans hh, r⟩
/-- A store into a block of another element type. -/
theorem Own.set {α : Type} {E : TypeId} {k : Nat} {enc : α → List Value} {w : World} {base : Nat} {v : Value} {xs : List α} (h : Own E k enc w base v xs) {g : Nat} {cs : Array Value} {T : TypeId} {fr : Nat × Nat} (hk : w.heap[g]? = some (.cells cs T fr)) (hT : T ≠ E) (j : Nat) (u : Value) : Own E k enc (w.setCell ⟨g, j, none⟩ u) base v xs :=
  h.move fun b hb => by
    obtain ⟨_, cur, h2⟩ := own_typed h b hb
    refine Below.heap_setCell w ⟨g, j, none⟩ u b (fun e => ?_)
    have e' : b = g := e
    subst e'
    rw [hk] at h2
    injection h2 with h2
    injection h2 with _ e2 _
    exact hT e2
/-- Where an append leaves its row: in its block, or in a new one. -/
theorem append_block {P : Program} (w : World) (base : Nat) (t ty e : TypeId) (i : TypeInfo) (z : Value) (size bytes : Nat) (ht : P.underlying t = some (.slice e)) (hi : P.info? e = some i) (hz : i.zero = some z)
    (hsize : i.size = size) (hby : i.bytes = bytes) (v : Value) (n : Nat) (xs : List Value) (hown : w.ownsRow base e size v n xs)
    (a : Addr) (m c : Nat) (news : List Value) (hl : news.length = m * size) (hnews : ∀ j u, news[j]? = some u → w.cell? (a.add j) = some u) (h1 : ∀ u ∈ news, u.oneCell' = true)
    (h63 : n + m ≤ maxLen) (hbytes : (n + m) * bytes ≤ 140737488355328) (v' : Value) (w' : World) (hrun : (Builtin.append_ #[t, t] ty #[v, .slice (some a) m c]).run P w = .ok v' w') :
    ∀ k, v'.ownBlock = some k → v.ownBlock = some k ∨ w.heap.size ≤ k := by
  subst hsize
  subst hby
  intro k hk
  rcases hown.2 with ⟨rfl, rfl⟩ | ⟨g, cap, cur, rfl, _, hg, hnc, hcm, hcs, _⟩
  · have hx : xs = [] := List.eq_nil_of_length_eq_zero (by simpa using hown.1)
    subst hx
    by_cases hm : m = 0
    · subst hm
      have hn : news = [] := List.eq_nil_of_length_eq_zero (by simpa using hl)
      subst hn
      have hr : (Builtin.append_ #[t, t] ty #[.slice none 0 0, .slice (some a) 0 c]).run P w = .ok (.slice none 0 0) w := by
        simp [Builtin.append_, run_underlying ht, sizeOf, typeInfo, hi, Builtin.lenOf, Builtin.firstCells, loadCells, loadCellsFrom]
      rw [hr] at hrun
      injection hrun with h2 _
      subst h2
      simp [Value.ownBlock] at hk
    · have hr := run_append_nil (P := P) w t ty e i z ht hi hz a m c news hl hnews (by omega) (by simp only [maxLen] at h63; omega) (by have hb := hbytes; simp only [Nat.zero_add] at hb; omega)
      rw [hr] at hrun
      injection hrun with h2 _
      subst h2
      simp [Value.ownBlock] at hk
      exact .inr (by omega)
  · by_cases hroom : n + m ≤ cap
    · have hfit : n * i.size + news.length ≤ cur.size := by rw [hl, hcs, ← Nat.add_mul]; exact Nat.mul_le_mul_right _ hroom
      have hr := run_append_room (P := P) w t ty e i ht hi g n cap cur hg a m c news hl hnews h1 hroom hfit
      rw [hr] at hrun
      injection hrun with h2 _
      subst h2
      exact .inl hk
    · have holds : ∀ j u, xs[j]? = some u → w.cell? ((⟨g, 0, none⟩ : Addr).add j) = some u := hown.cells (g := g) rfl
      have hr := run_append_grow (P := P) w t ty e i z ht hi hz ⟨g, 0, none⟩ n cap xs hown.1 holds a m c news hl hnews (by omega) (by simp only [maxLen] at h63; omega) (growslice_fits (by omega) hbytes)
      rw [hr] at hrun
      injection hrun with h2 _
      subst h2
      simp [Value.ownBlock] at hk
      exact .inr (by omega)
/-- The row v of w has become the row v' of w'; no other block of w has turned. -/
structure Row (v : Value) (w : World) (v' : Value) (w' : World) : Prop where
  g : w.grownBy w' v.ownBlock
  b : ∀ k, v'.ownBlock = some k → v.ownBlock = some k ∨ w.heap.size ≤ k
theorem Row.refl (v : Value) (w : World) : Row v w v w := ⟨⟨rfl, rfl, rfl, Nat.le_refl _, fun _ _ _ => rfl⟩, fun _ h => .inl h⟩
theorem Row.trans {v v1 v2 : Value} {w w1 w2 : World} (h : Row v w v1 w1) (k : Row v1 w1 v2 w2) : Row v w v2 w2 := by
  refine ⟨⟨k.g.os.trans h.g.os, k.g.tape.trans h.g.tape, k.g.output.trans h.g.output, Nat.le_trans h.g.size k.g.size, fun i hi hn => ?_⟩, fun i hi => ?_⟩
  · refine (k.g.block i (Nat.lt_of_lt_of_le hi h.g.size) (fun e => ?_)).trans (h.g.block i hi hn)
    rcases h.b i e.symm with h1 | h1
    · exact hn h1.symm
    · omega
  · rcases k.b i hi with h1 | h1
    · exact h.b i h1
    · exact .inr (Nat.le_trans h.g.size h1)
theorem Row.alloc {v v' : Value} {w w' : World} {o : Obj} (h : Row v (w.alloc o) v' w') : Row v w v' w' :=
  ⟨grown_trans (World.grownBy_alloc w o _) h.g, fun k hk => by
    have hs : (w.alloc o).heap.size = w.heap.size + 1 := by simp
    rcases h.b k hk with h1 | h1
    · exact .inl h1
    · exact .inr (by omega)⟩
theorem Row.grow {base : Nat} {E : TypeId} {size n : Nat} {v v' : Value} {xs : List Value} {w w' : World} (h : Row v w v' w') (ho : w.ownsRow base E size v n xs) : Grow base E w w' := Grow.of_grown ho h.g
/-- What is read in other blocks is read as before. -/
theorem Rd.row {α : Type} {enc : α → List Value} {k : Nat} {w w' : World} {u : Value} {ys : List α} (h : Rd enc k w u ys) {v v' : Value} (hr : Row v w v' w') (hne : ∀ b, u.ownBlock = some b → v.ownBlock ≠ some b) : Rd enc k w' u ys := by
  obtain ⟨h0, A, c, rfl, h2, h4, h3⟩ := h
  refine ⟨h0, A, c, rfl, h2, h4, fun hp => ?_⟩
  obtain ⟨b, off, rfl, hc⟩ := h3 hp
  exact ⟨b, off, rfl, fun j hj i q hq => hr.g.cell (hc j hj i q hq) (fun e => hne b rfl e.symm)⟩
theorem Own.row {α : Type} {E : TypeId} {k : Nat} {enc : α → List Value} {w w' : World} {base : Nat} {u : Value} {ys : List α} (h : Own E k enc w base u ys) {v v' : Value} (hr : Row v w v' w') (hne : ∀ b, u.ownBlock = some b → v.ownBlock ≠ some b) : Own E k enc w' base u ys :=
  h.move fun b hb => by
    obtain ⟨_, cur, h2⟩ := own_typed h b hb
    exact hr.g.block b (Array.getElem?_eq_some_iff.1 h2).1 (fun e => hne b hb e.symm)
section
variable {P : Program} {α : Type} {ops : Array Oper} {rest : List Oper} {o : Oper} {a : Act} {Q : Exit → Act → World → Prop}
theorem wpList_append_row {w : World} (hgd : o.guard = none) (s x : Operand) (t : TypeId) (ho : o.op = .call { callee := .builtin .append, args := #[s, x], argTypes := #[t, t] })
    (base : Nat) (e : TypeId) (i : TypeInfo) (z : Value) (size bytes : Nat) (ht : P.underlying t = some (.slice e)) (hi : P.info? e = some i) (hz : i.zero = some z)
    (hsize : i.size = size) (hby : i.bytes = bytes) (hzs : z.cells.size = size) (hsz : 0 < size)
    (v : Value) (n : Nat) (xs : List Value) (hs : a.eval s = v) (hown : w.ownsRow base e size v n xs)
    (ad : Addr) (m c : Nat) (news : List Value) (hx : a.eval x = .slice (some ad) m c) (hl : news.length = m * size) (hnews : ∀ j u, news[j]? = some u → w.cell? (ad.add j) = some u) (h1 : ∀ u ∈ news, u.oneCell' = true)
    (h63 : n + m ≤ maxLen) (hbytes : (n + m) * bytes ≤ 140737488355328) (hbase : base ≤ w.heap.size)
    (h : ∀ v' w', w'.ownsRow base e size v' (n + m) (xs ++ news) → Row v w v' w' → wpList P ops Q rest (a.put o.dst v') w') : wpList P ops Q (o :: rest) a w := by
  refine wpList_plain hgd fun K hK => ?_
  obtain ⟨v', w', hr, h2, h3, _⟩ := run_append_own (P := P) w base t o.type e i z size bytes ht hi hz hsize hby hzs hsz v n xs hown ad m c news hl hnews h1 h63 hbytes hbase
  have hb := append_block (P := P) w base t o.type e i z size bytes ht hi hz hsize hby v n xs hown ad m c news hl hnews h1 h63 hbytes v' w' hr
  unfold Oper.wp execOp
  simp only [ho, resolve, invoke, builtin, Sem.run_bind, Sem.run_pure, Result.andThen_ok, List.map_toArray, List.map_cons, List.map_nil, hs, hx, hr]
  exact hK _ _ (h v' w' h2 ⟨h3, hb⟩)
/-- One element appended (its cells lie in a block that was just laid), and where the row is then. -/
theorem wpList_pushR {wr : World} (hgd : o.guard = none) (s x : Operand) (t : TypeId) (ho : o.op = .call { callee := .builtin .append, args := #[s, x], argTypes := #[t, t] })
    (base : Nat) (e : TypeId) (i : TypeInfo) (z : Value) (size bytes : Nat) (ht : P.underlying t = some (.slice e)) (hi : P.info? e = some i) (hz : i.zero = some z)
    (hsize : i.size = size) (hby : i.bytes = bytes) (hzs : z.cells.size = size) (hsz : 0 < size) (hb0 : 0 < bytes) (enc : α → List Value)
    (v : Value) (xs : List α) (hs : a.eval s = v) (hown : Own e size enc wr base v xs) (y : α)
    (hx : a.eval x = .slice (some ⟨wr.heap.size, 0, none⟩) 1 1) (hl : (enc y).length = size) (h1 : ∀ u ∈ enc y, u.oneCell' = true)
    (hn : (xs.length + 1) * bytes ≤ 140737488355328) (hb : base ≤ wr.heap.size)
    (h : ∀ v' w', Own e size enc w' base v' (xs ++ [y]) → Row v wr v' w' → wpList P ops Q rest (a.put o.dst v') w') : wpList P ops Q (o :: rest) a (wr.alloc (.cells (enc y).toArray e)) := by
  have hm : xs.length + 1 ≤ maxLen := by
    have := Nat.le_trans (Nat.le_mul_of_pos_right (xs.length + 1) hb0) hn
    simp only [maxLen]; omega
  have hown' : (wr.alloc (.cells (enc y).toArray e)).ownsRow base e size v xs.length (xs.flatMap enc) := World.ownsRow.alloc hown _
  refine wpList_append_row hgd s x t ho base e i z size bytes ht hi hz hsize hby hzs hsz v xs.length (xs.flatMap enc) hs hown' ⟨wr.heap.size, 0, none⟩ 1 1 (enc y) hx (by rw [hl]; omega) ?_ h1 hm hn (by simp; omega) ?_
  · intro j u hu
    rw [add_plain, cell_of_row (wr.alloc (.cells (enc y).toArray e)) wr.heap.size j (enc y).toArray e (0, 0) (heap_alloc_new wr _)]
    simpa using hu
  · intro v' w' ho' hr
    refine h v' w' ?_ hr.alloc
    show w'.ownsRow base e size v' (xs ++ [y]).length ((xs ++ [y]).flatMap enc)
    rw [List.length_append, List.flatMap_append]
    simpa using ho'
/-- A whole slice appended that can be read. -/
theorem wpList_append_rd {w : World} (hgd : o.guard = none) (s x : Operand) (t : TypeId)
    (ho : o.op = .call { callee := .builtin .append, args := #[s, x], argTypes := #[t, t] })
    (base : Nat) (e : TypeId) (i : TypeInfo) (z : Value) (size bytes : Nat) (ht : P.underlying t = some (.slice e)) (hi : P.info? e = some i) (hz : i.zero = some z)
    (hsize : i.size = size) (hby : i.bytes = bytes) (hzs : z.cells.size = size) (hsz : 0 < size) (hb0 : 0 < bytes) (enc : α → List Value) (henc : ∀ y, (enc y).length = size) (h1 : ∀ y, ∀ u ∈ enc y, u.oneCell' = true)
    (v : Value) (xs : List α) (hs : a.eval s = v) (hown : Own e size enc w base v xs) (u : Value) (ys : List α) (hx : a.eval x = u) (hr : Rd enc size w u ys)
    (hn : (xs.length + ys.length) * bytes ≤ 140737488355328) (hb : base ≤ w.heap.size)
    (h : ∀ v' w', Own e size enc w' base v' (xs ++ ys) → Row v w v' w' → wpList P ops Q rest (a.put o.dst v') w') : wpList P ops Q (o :: rest) a w := by
  have hm : xs.length + ys.length ≤ maxLen := by
    have := Nat.le_trans (Nat.le_mul_of_pos_right (xs.length + ys.length) hb0) hn
    simp only [maxLen]; omega
  obtain ⟨_, A, c, rfl, _, hnil, hcell⟩ := hr
  cases A with
  | none =>
    have hc := hnil rfl
    subst hc
    have hy : ys = [] := by
      cases ys with
      | nil => rfl
      | cons y l =>
        obtain ⟨_, _, e, _⟩ := hcell (by simp)
        cases e
    subst hy
    have hrun := run_append_owned_none (P := P) w base t o.type e i size ht hi v xs.length (xs.flatMap enc) hown
    refine wpList_plain hgd fun K hK => ?_
    unfold Oper.wp execOp
    simp only [ho, resolve, invoke, builtin, Sem.run_bind, Sem.run_pure, Result.andThen_ok, List.map_toArray, List.map_cons, List.map_nil, hs, hx, List.length_nil, hrun]
    exact hK _ _ (h v w (by rw [List.append_nil]; exact hown) (Row.refl v w))
  | some ad =>
    refine wpList_append_row hgd s x t ho base e i z size bytes ht hi hz hsize hby hzs hsz v xs.length (xs.flatMap enc) hs hown ad ys.length c (ys.flatMap enc) hx (flatMap_len henc ys) ?_ ?_ hm hn hb ?_
    · intro j q hq
      have hj : j < ys.length * size := by
        have := (List.getElem?_eq_some_iff.1 hq).1
        rwa [flatMap_len henc] at this
      have hpos : 0 < ys.length := by
        rcases Nat.eq_zero_or_pos ys.length with h0 | h0
        · rw [h0] at hj; omega
        · exact h0
      obtain ⟨b, off, e, hcl⟩ := hcell hpos
      injection e with e
      subst e
      have hjd : j / size < ys.length := Nat.div_lt_of_lt_mul (by rw [Nat.mul_comm]; exact hj)
      have hdm : j / size * size + j % size = j := by rw [Nat.mul_comm]; exact Nat.div_add_mod j size
      have hq' : (enc ys[j / size])[j % size]? = some q := by
        have hlt : j % size < (enc ys[j / size]).length := by rw [henc]; exact Nat.mod_lt _ hsz
        have h2 := flatMap_at henc ys (j / size) hjd (j % size) _ (List.getElem?_eq_getElem hlt)
        rw [hdm, hq] at h2
        rw [List.getElem?_eq_getElem hlt, ← h2]
      have := hcl (j / size) hjd (j % size) q hq'
      rw [Nat.add_assoc, hdm] at this
      rw [Addr.add_lit]
      exact this
    · intro q hq
      obtain ⟨y, _, hy⟩ := List.mem_flatMap.1 hq
      exact h1 y q hy
    · intro v' w' ho' hr
      refine h v' w' ?_ hr
      show w'.ownsRow base e size v' (xs ++ ys).length ((xs ++ ys).flatMap enc)
      rw [List.length_append, List.flatMap_append]
      exact ho'
end
end Go.Proofs.Ytiogpainajokkaa

namespace Go.Proofs.Ytiogpainajokkaa
open Go.RowKit
theorem oneU8_one : ∀ y, ∀ u ∈ oneU8 y, u.oneCell' = true := by
  intro y u hu
  simp only [oneU8, List.mem_singleton] at hu
  subst hu
  rfl
theorem typ_info : ∃ i, Try.prog.info? 41 = some i ∧ i.zero = some (.int .u8 0) ∧ i.size = 1 ∧ i.bytes = 1 := by
  have h : (Try.prog.info? 41).map (fun i => (i.zero, i.size, i.bytes)) = some (some (.int .u8 0), 1, 1) := by kernel_rfl
  obtain ⟨i, h1, h2⟩ := Option.map_eq_some_iff.1 h
  simp only [Prod.mk.injEq] at h2
  exact ⟨i, h1, h2.1, h2.2.1, h2.2.2⟩
/-- A row of the call's own with these types. -/
def RowPost (w : World) (xs : List Int) (e : Ending) (w' : World) : Prop := ∃ v, e = .returned v ∧ Own 41 1 oneU8 w' w.heap.size v xs ∧ Below w.heap.size w w'
theorem own_nil0 (w : World) : Own 41 1 oneU8 (w.alloc (.cells #[] 41)) w.heap.size (.slice (some ⟨w.heap.size, 0, none⟩) 0 0) [] :=
  ⟨by simp, .inr ⟨w.heap.size, 0, #[], rfl, Nat.le_refl _, heap_alloc_new w _, Nat.le_refl _, Nat.zero_le _, by simp, by simp⟩⟩
set_option maxHeartbeats 800000 in
set_option maxRecDepth 100000 in
theorem clone_any (w : World) (v : Value) (xs : List Int) (hl : xs.length ≤ 100000) (h : Rd oneU8 1 w v xs) : Calls Try.prog 122 #[v] w (RowPost w xs) := by
  obtain ⟨i0, hi, hz0, hz1, hz2⟩ := typ_info
  have hq : ∀ (w : World) (a : Option Addr) (n c n' c' : Nat), (binOp .eql 120 (.slice a n c) (.slice none n' c')).run Try.prog w = .ok (.bool a.isNone) w := fun w a n c n' c' => Lib.run_eql_slice_nil w _ _ a n c n' c' Try.underlying120
  have HR := Fact.mk h
  obtain ⟨_, A, c, rfl, _, hnil, _⟩ := h
  cases A with
  | none =>
    obtain rfl := hnil rfl
    obtain rfl : xs = [] := by
      cases xs with
      | nil => rfl
      | cons x l =>
        obtain ⟨_, A, c, e, _, _, h3⟩ := HR.out
        cases e
        obtain ⟨_, _, e, _⟩ := h3 (by simp)
        cases e
    clear hnil
    go_enter Try.func122, Try.ntmps122
    go_wp2
    go_ret
    exact ⟨_, rfl, Own.nil _ _ _ _ _, Below.refl _ _⟩
  | some ad =>
    clear hnil
    go_enter Try.func122, Try.ntmps122
    go_wp2_with (at_builtin; refine wpList_append_rd rfl _ _ 120 rfl w.heap.size 41 i0 (.int .u8 0) 1 1 Try.underlying120 hi hz0 hz1 hz2 rfl (by decide) (by decide) oneU8 oneU8_len oneU8_one _ [] rfl (own_nil0 w) _ xs rfl (HR.out.below ((Below.refl _ _).alloc (Nat.le_refl _) _)) (by simp; omega) (by simp) ?_; intro v1 w1 ho hr)
    go_wp2
    go_ret
    refine ⟨_, rfl, ?_, ?_⟩
    · simpa using ho
    · exact ((Below.refl _ w).alloc (Nat.le_refl _) _).grown hr.g (by simp) (fun k hk => by cases hk; exact Nat.le_refl _)
end Go.Proofs.Ytiogpainajokkaa

namespace Go.Proofs.Ytiogpainajokkaa
open Go.RowKit
/-- A checker lies at X: its program's parts, its places. -/
structure ChkAt (w : World) (X : Nat) (c : GCode) (vs bs is sp : Value) : Prop where
  row : w.heap[X]? = some (.cells #[.string c.name, vs, bs, is, sp] 150 (0, 0))
  rd : CodeRd w c vs bs is
theorem ChkAt.below {w w' : World} {X : Nat} {c : GCode} {vs bs is sp : Value} (h : ChkAt w X c vs bs is sp) (hb : Below w.heap.size w w') : ChkAt w' X c vs bs is sp :=
  ⟨by rw [hb.block X (Array.getElem?_eq_some_iff.1 h.row).1]; exact h.row, h.rd.below hb⟩
theorem ChkAt.lt {w : World} {X : Nat} {c : GCode} {vs bs is sp : Value} (h : ChkAt w X c vs bs is sp) : X < w.heap.size := (Array.getElem?_eq_some_iff.1 h.row).1
theorem ChkAt.cells {w : World} {X : Nat} {c : GCode} {vs bs is sp : Value} (h : ChkAt w X c vs bs is sp) : w.cell? ⟨X, 0, none⟩ = some (.string c.name) ∧ w.cell? ⟨X, 1, none⟩ = some vs ∧ w.cell? ⟨X, 2, none⟩ = some bs ∧ w.cell? ⟨X, 3, none⟩ = some is ∧ w.cell? ⟨X, 4, none⟩ = some sp :=
  ⟨by rw [cell_of_row _ _ 0 _ _ _ h.row]; rfl, by rw [cell_of_row _ _ 1 _ _ _ h.row]; rfl, by rw [cell_of_row _ _ 2 _ _ _ h.row]; rfl, by rw [cell_of_row _ _ 3 _ _ _ h.row]; rfl, by rw [cell_of_row _ _ 4 _ _ _ h.row]; rfl⟩
/-- Two lists of types are told; nothing that was there has changed. -/
def EffPost (w : World) (r : List Int × List Int) (e : Ending) (w' : World) : Prop := ∃ v1 v2, e = .returned (.tuple #[v1, v2]) ∧ Rd oneU8 1 w' v1 r.1 ∧ Rd oneU8 1 w' v2 r.2 ∧ Below w.heap.size w w'
def vIns (i : GIns) : Value := .agg #[.int .u8 i.op, .int .u8 i.t, .int .i64 i.a, .int .i64 i.n]
theorem rd_at {w : World} {m : Nat} (hm : m = w.heap.size) (xs : List Int) (T : TypeId) (hl : xs.length ≤ 100) : Rd oneU8 1 (w.alloc (.cells (xs.flatMap oneU8).toArray T)) (.slice (some ⟨m, 0, none⟩) xs.length xs.length) xs := by
  subst hm
  exact rd_new oneU8 1 oneU8_len w xs T (by omega)
theorem rd_heap {w : World} {m : Nat} {T : TypeId} (xs : List Int) (hl : xs.length ≤ 100) (h : w.heap[m]? = some (.cells (xs.flatMap oneU8).toArray T (0, 0))) : Rd oneU8 1 w (.slice (some ⟨m, 0, none⟩) xs.length xs.length) xs := by
  refine ⟨by omega, _, _, rfl, Nat.le_refl _, (fun h => by cases h), fun _ => ⟨m, 0, rfl, fun j hj i u hu => ?_⟩⟩
  rw [cell_of_row _ _ _ _ _ (0, 0) h]
  have := flatMap_at oneU8_len xs j hj i u hu
  simpa using this
theorem eff_pair {w w' : World} {r : List Int × List Int} {m1 m2 : Nat} (xs ys : List Int) (hr : r = (xs, ys)) {e : Ending} {T : TypeId} (he : e = .returned (.tuple #[.slice (some ⟨m1, 0, none⟩) xs.length xs.length, .slice (some ⟨m2, 0, none⟩) ys.length ys.length])) (l1 : xs.length ≤ 100) (l2 : ys.length ≤ 100) (h1 : w'.heap[m1]? = some (.cells (xs.flatMap oneU8).toArray T (0, 0))) (h2 : w'.heap[m2]? = some (.cells (ys.flatMap oneU8).toArray T (0, 0))) (hb : Below w.heap.size w w') : EffPost w r e w' := by
  subst hr
  exact ⟨_, _, he, rd_heap xs l1 h1, rd_heap ys l2 h2, hb⟩
theorem tri (w : World) (o1 o2 o3 : Obj) : (((w.alloc o1).alloc o2).alloc o3).drew.heap[w.heap.size + 1]? = some o2 ∧ (((w.alloc o1).alloc o2).alloc o3).drew.heap[w.heap.size + 1 + 1]? = some o3 ∧ Below w.heap.size w (((w.alloc o1).alloc o2).alloc o3).drew := by
  obtain ⟨_, rfl, h1, _, h2, h3, _⟩ := three_blocks w o1 o2 o3
  exact ⟨h2, h3, h1.drew⟩
theorem duo (w : World) (o1 o2 : Obj) : ((w.alloc o1).alloc o2).drew.heap[w.heap.size + 1]? = some o2 ∧ Below w.heap.size w ((w.alloc o1).alloc o2).drew := by
  obtain ⟨h1, _, h2, _⟩ := two_blocks w o1 o2
  exact ⟨h2, h1.drew⟩
theorem tri0 (w : World) (o1 o2 o3 : Obj) : (((w.alloc o1).alloc o2).alloc o3).heap[w.heap.size + 1]? = some o2 ∧ (((w.alloc o1).alloc o2).alloc o3).heap[w.heap.size + 1 + 1]? = some o3 ∧ Below w.heap.size w (((w.alloc o1).alloc o2).alloc o3) := by
  obtain ⟨_, rfl, h1, _, h2, h3, _⟩ := three_blocks w o1 o2 o3
  exact ⟨h2, h3, h1⟩
theorem duo0 (w : World) (o1 o2 : Obj) : ((w.alloc o1).alloc o2).heap[w.heap.size + 1]? = some o2 ∧ Below w.heap.size w ((w.alloc o1).alloc o2) := by
  obtain ⟨h1, _, h2, _⟩ := two_blocks w o1 o2
  exact ⟨h2, h1⟩
theorem Rd.last8 {w : World} {v : Value} {s : List Int} (h : Rd oneU8 1 w v s) (m : Nat) (hm : s.length = m + 1) : ∃ b off c, v = .slice (some ⟨b, off, none⟩) (m + 1) c ∧ w.cell? ⟨b, off + m, none⟩ = some (.int .u8 (s.getLastD 0)) ∧ m ≤ 9223372036854775806 := by
  obtain ⟨h0, A, c, rfl, h2, h4, h3⟩ := h
  obtain ⟨b, off, rfl, hc⟩ := h3 (by omega)
  have := hc m (by omega) 0 (.int .u8 s[m]) rfl
  rw [show off + m * 1 + 0 = off + m by omega] at this
  refine ⟨b, off, c, by rw [hm], ?_, by omega⟩
  have e : s.getLastD 0 = s[m] := by
    rw [List.getLastD_eq_getLast?, List.getLast?_eq_getElem?, show s.length - 1 = m by omega, List.getElem?_eq_getElem (by omega)]
    rfl
  rw [e]; exact this
theorem Rd.at8 {w : World} {v : Value} {s : List Int} (h : Rd oneU8 1 w v s) (k : Nat) (hk : k < s.length) : ∃ b off c, v = .slice (some ⟨b, off, none⟩) s.length c ∧ w.cell? ⟨b, off + k, none⟩ = some (.int .u8 s[k]) ∧ s.length ≤ 9223372036854775807 ∧ s.length ≤ c := by
  obtain ⟨h0, A, c, rfl, h2, h4, h3⟩ := h
  obtain ⟨b, off, rfl, hc⟩ := h3 (by omega)
  have := hc k hk 0 (.int .u8 s[k]) rfl
  rw [show off + k * 1 + 0 = off + k by omega] at this
  exact ⟨b, off, c, rfl, this, h0, h2⟩
theorem rd_one8 {w : World} {B o c : Nat} {x : Int} (h : w.cell? ⟨B, o, none⟩ = some (.int .u8 x)) (hc : 1 ≤ c) : Rd oneU8 1 w (.slice (some ⟨B, o, none⟩) 1 c) [x] := by
  refine ⟨by simp, _, _, rfl, hc, (fun h => by cases h), fun _ => ⟨B, o, rfl, fun j hj i u hu => ?_⟩⟩
  obtain rfl : j = 0 := by simpa using hj
  obtain ⟨rfl, rfl⟩ : i = 0 ∧ u = .int .u8 x := by
    have hi : i < 1 := (List.getElem?_eq_some_iff.1 hu).1
    obtain rfl : i = 0 := by omega
    exact ⟨rfl, by simpa [oneU8] using hu.symm⟩
  exact h
theorem eff_puts {w w' : World} {r : List Int × List Int} {m1 : Nat} (xs : List Int) (hr : r = ([], xs)) {e : Ending} {T : TypeId} (he : e = .returned (.tuple #[.slice none 0 0, .slice (some ⟨m1, 0, none⟩) xs.length xs.length])) (l1 : xs.length ≤ 100) (h1 : w'.heap[m1]? = some (.cells (xs.flatMap oneU8).toArray T (0, 0))) (hb : Below w.heap.size w w') : EffPost w r e w' := by
  subst hr
  exact ⟨_, _, he, rd_nil _ _ _, rd_heap xs l1 h1, hb⟩
theorem eff_takes {w w' : World} {r : List Int × List Int} {m1 : Nat} (xs : List Int) (hr : r = (xs, [])) {e : Ending} {T : TypeId} (he : e = .returned (.tuple #[.slice (some ⟨m1, 0, none⟩) xs.length xs.length, .slice none 0 0])) (l1 : xs.length ≤ 100) (h1 : w'.heap[m1]? = some (.cells (xs.flatMap oneU8).toArray T (0, 0))) (hb : Below w.heap.size w w') : EffPost w r e w' := by
  subst hr
  exact ⟨_, _, he, rd_heap xs l1 h1, rd_nil _ _ _, hb⟩
theorem fit_var {c : GCode} {i : GIns} (hf : fitsB c i = true) (ho : i.op = 2 ∨ i.op = 3) : 0 ≤ i.a ∧ i.a < c.vars.length := by
  obtain ⟨op, t, a, n⟩ := i
  rcases ho with ho | ho
  all_goals
    obtain rfl : op = _ := ho
    show 0 ≤ a ∧ a < (c.vars.length : Int)
    simp only [fitsB, show shapeStr 2 = [45, 118, 45] from rfl, show shapeStr 3 = [45, 115, 45] from rfl, Bool.and_eq_true] at hf
    have h := hf.1.2
    simp [chk, storeB, belowB] at h
    omega
theorem fit_conv {c : GCode} {i : GIns} (hf : fitsB c i = true) (ho : i.op = 15) : 1 ≤ i.a ∧ i.a ≤ 5 := by
  obtain ⟨op, t, a, n⟩ := i
  obtain rfl : op = _ := ho
  simp only [fitsB, show shapeStr 15 = [116, 116, 45] from rfl, Bool.and_eq_true] at hf
  have h := hf.1.2
  simpa [chk, typedB] using h
theorem fit_block {c : GCode} {i : GIns} (hf : fitsB c i = true) (ho : i.op = 20 ∨ i.op = 21) : 0 ≤ i.a ∧ i.a < c.blocks.length := by
  obtain ⟨op, t, a, n⟩ := i
  rcases ho with ho | ho
  all_goals
    obtain rfl : op = _ := ho
    simp only [fitsB, show shapeStr 20 = [45, 98, 45] from rfl, show shapeStr 21 = [45, 98, 112] from rfl, Bool.and_eq_true] at hf
    have h := hf.1.2
    simp [chk, belowB] at h
    omega
theorem fit_pin {c : GCode} {i : GIns} (hf : fitsB c i = true) (ho : i.op = 21) : 0 ≤ i.n ∧ i.n < (pinsOut (c.blocks.getD i.a.toNat 0)).length := by
  obtain ⟨op, t, a, n⟩ := i
  obtain rfl : op = _ := ho
  simp only [fitsB, show shapeStr 21 = [45, 98, 112] from rfl, Bool.and_eq_true] at hf
  have h := hf.2
  simpa [chk, belowB] using h
theorem rd_lit (xs : List Int) (w w' : World) (T : TypeId) (hl : xs.length ≤ 100) (hb : Below (w.alloc (.cells (xs.flatMap oneU8).toArray T)).heap.size (w.alloc (.cells (xs.flatMap oneU8).toArray T)) w') : Rd oneU8 1 w' (.slice (some ⟨w.heap.size, 0, none⟩) xs.length xs.length) xs :=
  (rd_new oneU8 1 oneU8_len w xs T (by omega)).below hb
theorem id_any (v : Value) (A : Option Addr) (n c : Nat) (h : v = .slice A n c) (w : World) : Calls Try.prog 152 #[v] w fun e w' => e = .returned v ∧ w = w' := by
  subst h
  go_enter Try.func152, Try.ntmps152
  go_wp2
  go_ret
  exact ⟨rfl, rfl⟩
end Go.Proofs.Ytiogpainajokkaa

namespace Go.Proofs.Ytiogpainajokkaa
open Go.RowKit
def encSp (x : GSpot × Value) : List Value := [.bool x.1.reached, x.2, .int .i64 x.1.steps]
theorem encSp_len (x : GSpot × Value) : (encSp x).length = 3 := rfl
/-- The places of ss lie in the block S, each with a stack that can be read. -/
def Places (w : World) (S : Nat) (ss : List GSpot) : Prop := ∃ xs : List (GSpot × Value), xs.map (·.1) = ss ∧ w.heap[S]? = some (.cells (xs.flatMap encSp).toArray 122 (0, 0)) ∧ ∀ x ∈ xs, Rd oneU8 1 w x.2 x.1.stack ∧ x.2.ownBlock ≠ some S
theorem Places.lt {w : World} {S : Nat} {ss : List GSpot} (h : Places w S ss) : S < w.heap.size := by
  obtain ⟨_, _, h, _⟩ := h
  exact (Array.getElem?_eq_some_iff.1 h).1
theorem Places.below {w w' : World} {S : Nat} {ss : List GSpot} (h : Places w S ss) (hb : Below w.heap.size w w') : Places w' S ss := by
  obtain ⟨xs, h1, h2, h3⟩ := h
  exact ⟨xs, h1, by rw [hb.block S (Array.getElem?_eq_some_iff.1 h2).1]; exact h2, fun x hx => ⟨(h3 x hx).1.below hb, (h3 x hx).2⟩⟩
theorem Places.at {w : World} {S : Nat} {ss : List GSpot} (h : Places w S ss) (k : Nat) (hk : k < ss.length) : ∃ v, w.cell? ⟨S, k * 3, none⟩ = some (.bool (spotAt ss k).reached) ∧ w.cell? ⟨S, k * 3 + 1, none⟩ = some v ∧ w.cell? ⟨S, k * 3 + 2, none⟩ = some (.int .i64 (spotAt ss k).steps) ∧ Rd oneU8 1 w v (spotAt ss k).stack ∧ v.ownBlock ≠ some S ∧ w.frozen? ⟨S, k * 3, none⟩ = false ∧ w.frozen? ⟨S, k * 3 + 1, none⟩ = false ∧ w.frozen? ⟨S, k * 3 + 2, none⟩ = false := by
  obtain ⟨xs, rfl, h2, h3⟩ := h
  have hk' : k < xs.length := by simpa using hk
  have e : spotAt (xs.map (·.1)) k = xs[k].1 := by
    unfold spotAt
    rw [List.getD_eq_getElem?_getD, List.getElem?_map, List.getElem?_eq_getElem hk']
    rfl
  have c := fun i u (hu : (encSp xs[k])[i]? = some u) => flatMap_at encSp_len xs k hk' i u hu
  rw [e]
  refine ⟨xs[k].2, ?_, ?_, ?_, (h3 _ (List.getElem_mem hk')).1, (h3 _ (List.getElem_mem hk')).2, frozen_of_row w S _ _ _ h2, frozen_of_row w S _ _ _ h2, frozen_of_row w S _ _ _ h2⟩
  · rw [cell_of_row _ _ _ _ _ _ h2]
    simpa using c 0 _ rfl
  · rw [cell_of_row _ _ _ _ _ _ h2]
    simpa using c 1 _ rfl
  · rw [cell_of_row _ _ _ _ _ _ h2]
    simpa using c 2 _ rfl
theorem flat_set3 (y : GSpot × Value) : ∀ (l : List (GSpot × Value)) (k : Nat), k < l.length → (((l.flatMap encSp).set (k * 3) (.bool y.1.reached)).set (k * 3 + 1) y.2).set (k * 3 + 2) (.int .i64 y.1.steps) = (l.set k y).flatMap encSp := by
  intro l
  induction l with
  | nil => intro k h; exact absurd h (by simp)
  | cons x l ih =>
    intro k h
    cases k with
    | zero => rfl
    | succ k =>
      have := ih k (by simpa using h)
      rw [List.set_cons_succ, List.flatMap_cons, List.flatMap_cons, ← this, show (k + 1) * 3 = k * 3 + 1 + 1 + 1 by omega]
      rfl
theorem grown_cell (w : World) (g j : Nat) (u : Value) : w.grownBy (w.setCell ⟨g, j, none⟩ u) (some g) :=
  ⟨rfl, rfl, rfl, by simp, fun i hi hne => heap_setCell_other w ⟨g, j, none⟩ i u (fun e => hne (by rw [e]))⟩
theorem Rd.grownS {α : Type} {enc : α → List Value} {k : Nat} {w w' : World} {v : Value} {xs : List α} {g : Nat} (h : Rd enc k w v xs) (hg : w.grownBy w' (some g)) (hne : v.ownBlock ≠ some g) : Rd enc k w' v xs := by
  obtain ⟨h0, A, c, h1, h2, h4, h3⟩ := h
  refine ⟨h0, A, c, h1, h2, h4, fun hp => ?_⟩
  obtain ⟨b, off, e, hc⟩ := h3 hp
  refine ⟨b, off, e, fun j hj i u hu => hg.cell (hc j hj i u hu) (fun e2 => hne ?_)⟩
  subst h1 e
  exact e2
theorem Places.put {w : World} {S : Nat} {ss : List GSpot} (h : Places w S ss) (k : Nat) (hk : k < ss.length) (st : List Int) (n : Int) (v : Value) (hv : Rd oneU8 1 w v st) (hne : v.ownBlock ≠ some S) :
    Places (((w.setCell ⟨S, k * 3, none⟩ (.bool true)).setCell ⟨S, k * 3 + 1, none⟩ v).setCell ⟨S, k * 3 + 2, none⟩ (.int .i64 n)) S (ss.set k ⟨true, st, n⟩) ∧ w.grownBy (((w.setCell ⟨S, k * 3, none⟩ (.bool true)).setCell ⟨S, k * 3 + 1, none⟩ v).setCell ⟨S, k * 3 + 2, none⟩ (.int .i64 n)) (some S) := by
  obtain ⟨xs, rfl, h2, h3⟩ := h
  have hk' : k < xs.length := by simpa using hk
  have g : w.grownBy (((w.setCell ⟨S, k * 3, none⟩ (.bool true)).setCell ⟨S, k * 3 + 1, none⟩ v).setCell ⟨S, k * 3 + 2, none⟩ (.int .i64 n)) (some S) :=
    grown_trans (grown_cell w S _ _) (grown_trans (grown_cell _ S _ _) (grown_cell _ S _ _))
  refine ⟨⟨xs.set k (⟨true, st, n⟩, v), ?_, ?_, ?_⟩, g⟩
  · rw [List.map_set]
  · have h4 := heap_setCell_same _ S (k * 3 + 2) _ _ (.int .i64 n) (heap_setCell_same _ S (k * 3 + 1) _ _ v (heap_setCell_same w S (k * 3) _ _ (.bool true) h2))
    rw [h4, ← flat_set3 (⟨true, st, n⟩, v) xs k hk']
    simp
  · intro x hx
    rcases List.mem_or_eq_of_mem_set hx with hx | rfl
    · exact ⟨(h3 x hx).1.grownS g (h3 x hx).2, (h3 x hx).2⟩
    · exact ⟨hv.grownS g hne, hne⟩
/-- A checker at X with its places at S; w0 is the world in which the call began. -/
structure ChkSt (w0 w : World) (X S : Nat) (c : GCode) (vs bs is : Value) (ss : List GSpot) : Prop where
  row : w.heap[X]? = some (.cells #[.string c.name, vs, bs, is, .slice (some ⟨S, 0, none⟩) ss.length ss.length] 150 (0, 0))
  old : CodeRd w0 c vs bs is
  bel : Below w0.heap.size w0 w
  lo : w0.heap.size ≤ S
  ne : X ≠ S
  pl : Places w S ss
theorem ChkSt.chk {w0 w : World} {X S : Nat} {c : GCode} {vs bs is : Value} {ss : List GSpot} (h : ChkSt w0 w X S c vs bs is ss) : ChkAt w X c vs bs is (.slice (some ⟨S, 0, none⟩) ss.length ss.length) := ⟨h.row, h.old.below h.bel⟩
theorem ChkSt.below {w0 w w' : World} {X S : Nat} {c : GCode} {vs bs is : Value} {ss : List GSpot} (h : ChkSt w0 w X S c vs bs is ss) (hb : Below w.heap.size w w') : ChkSt w0 w' X S c vs bs is ss :=
  ⟨by rw [hb.block X (Array.getElem?_eq_some_iff.1 h.row).1]; exact h.row, h.old, h.bel.trans (hb.mono h.bel.size), h.lo, h.ne, h.pl.below hb⟩
theorem ChkSt.turn {w0 w w' : World} {X S : Nat} {c : GCode} {vs bs is : Value} {ss ss' : List GSpot} (h : ChkSt w0 w X S c vs bs is ss) (hg : w.grownBy w' (some S)) (hp : Places w' S ss') (hl : ss'.length = ss.length) : ChkSt w0 w' X S c vs bs is ss' :=
  ⟨by rw [hg.block X (Array.getElem?_eq_some_iff.1 h.row).1 (fun e => h.ne (by cases e; rfl)), hl]; exact h.row, h.old, h.bel.grown hg h.bel.size (fun k hk => by cases hk; exact h.lo), h.lo, h.ne, hp⟩
end Go.Proofs.Ytiogpainajokkaa

namespace Go.Proofs.Ytiogpainajokkaa
open Go.RowKit
theorem fit_jump {c : GCode} {i : GIns} (hf : fitsB c i = true) (ho : i.op = 18 ∨ i.op = 19) : 0 ≤ i.a ∧ i.a < c.ins.length + 1 := by
  obtain ⟨op, t, a, n⟩ := i
  rcases ho with ho | ho
  all_goals
    obtain rfl : op = _ := ho
    show 0 ≤ a ∧ a < (c.ins.length : Int) + 1
    simp only [fitsB, show shapeStr 18 = [45, 106, 45] from rfl, show shapeStr 19 = [45, 106, 45] from rfl, Bool.and_eq_true] at hf
    have h := hf.1.2
    simp [chk, belowB] at h
    omega
def tailS (A : Option Addr) (n c d : Nat) : Value := .slice (if c = d then A else A.map (·.add d)) (n - d) (c - d)
def headS (A : Option Addr) (c d : Nat) : Value := .slice (if c = 0 then A else A.map (·.add 0)) d c
theorem run_tailS (W : World) (A : Option Addr) (n c d : Nat) (h : d ≤ n) : (Instr.slice 120 (.slice A n c) (some (.int .i64 (d : Int))) none none).run Try.prog W = .ok (tailS A n c d) W := by
  have ht : Try.prog.underlying 120 = some (.slice (Try.prog.elem 120)) := by kernel_rfl
  have hs : (Go.sizeOf (Try.prog.elem 120)).run Try.prog W = .ok 1 W := by kernel_rfl
  rw [run_slice_l W _ _ _ _ ht .i64 _ (by omega) (by omega), hs]
  simp [Result.andThen, sliced, tailS]
theorem run_headS (W : World) (A : Option Addr) (n c d : Nat) (h : d ≤ c) : (Instr.slice 120 (.slice A n c) none (some (.int .i64 (d : Int))) none).run Try.prog W = .ok (headS A c d) W := by
  have ht : Try.prog.underlying 120 = some (.slice (Try.prog.elem 120)) := by kernel_rfl
  have hs : (Go.sizeOf (Try.prog.elem 120)).run Try.prog W = .ok 1 W := by kernel_rfl
  rw [run_slice_h W _ _ _ _ ht .i64 _ (by omega) (by omega), hs]
  simp [Result.andThen, sliced, headS]
theorem Rd.tail {w : World} {A : Option Addr} {n c : Nat} {xs : List Int} (h : Rd oneU8 1 w (.slice A n c) xs) (d : Nat) (hd : d ≤ n) : Rd oneU8 1 w (tailS A n c d) (xs.drop d) := by
  obtain ⟨h0, A', c', e, h2, h4, h3⟩ := h
  cases e
  refine ⟨by simp; omega, _, _, by unfold tailS; rw [List.length_drop], by simp; omega, fun e => ?_, fun hp => ?_⟩
  · by_cases hcd : c = d
    · rw [if_pos hcd] at e; have := h4 e; omega
    · rw [if_neg hcd] at e
      have : A = none := by cases A <;> simp_all
      have := h4 this; omega
  · have hl : d < xs.length := by simp at hp; omega
    obtain ⟨b, off, rfl, hc⟩ := h3 (by omega)
    refine ⟨b, off + d, ?_, fun j hj i u hu => ?_⟩
    · rw [if_neg (by omega)]
      simp [Addr.add_lit]
    · have hj' : d + j < xs.length := by simp at hj; omega
      have e : (xs.drop d)[j] = xs[d + j] := by rw [List.getElem_drop]
      rw [e] at hu
      have := hc (d + j) hj' i u hu
      rw [show off + d + j * 1 + i = off + (d + j) * 1 + i by omega]
      exact this
theorem Rd.head {w : World} {A : Option Addr} {n c : Nat} {xs : List Int} (h : Rd oneU8 1 w (.slice A n c) xs) (d : Nat) (hd : d ≤ n) : Rd oneU8 1 w (headS A c d) (xs.take d) := by
  obtain ⟨h0, A', c', e, h2, h4, h3⟩ := h
  cases e
  have hl : (xs.take d).length = d := by simp; omega
  refine ⟨by omega, _, _, by unfold headS; rw [hl], by omega, fun e => ?_, fun hp => ?_⟩
  · by_cases hcd : c = 0
    · exact hcd
    · rw [if_neg hcd] at e
      have : A = none := by cases A <;> simp_all
      exact h4 this
  · obtain ⟨b, off, rfl, hc⟩ := h3 (by omega)
    refine ⟨b, off, ?_, fun j hj i u hu => ?_⟩
    · rw [if_neg (by omega)]
      simp [Addr.add_lit]
    · have hj' : j < xs.length := by omega
      rw [List.getElem_take] at hu
      exact hc j hj' i u hu
/-- What one place comes to: an error's number, the places behind it. -/
def OnePost (w0 : World) (X S : Nat) (c : GCode) (vs bs is : Value) (r : List GSpot × Int) (e : Ending) (w' : World) : Prop := e = .returned (.int .i64 r.2) ∧ ChkSt w0 w' X S c vs bs is r.1
section
variable {i : GIns} {s : GSpot} {k : Nat} {e : List Int × List Int} {ss : List GSpot}
theorem one_back (h : (jumpsB i && decide (i.a ≤ k)) = true) : oneIns i s k e ss = (ss, 141) := by rw [oneIns, if_pos h]
theorem one_take (h : (jumpsB i && decide (i.a ≤ k)) = false) (h2 : takesOk s.stack e.1 = false) : oneIns i s k e ss = (ss, 140) := by rw [oneIns, if_neg (by rw [h]; decide), if_pos h2]
theorem one_room (h : (jumpsB i && decide (i.a ≤ k)) = false) (h2 : takesOk s.stack e.1 = true) (h3 : (decide (64 < (nextB s.stack e).length) || (decide (i.op = 22) && decide (0 < (nextB s.stack e).length))) = true) : oneIns i s k e ss = (ss, 140) := by
  rw [oneIns, if_neg (by rw [h]; decide), if_neg (by rw [h2]; decide), if_pos h3]
theorem one_jump (h : (jumpsB i && decide (i.a ≤ k)) = false) (h2 : takesOk s.stack e.1 = true) (h3 : (decide (64 < (nextB s.stack e).length) || (decide (i.op = 22) && decide (0 < (nextB s.stack e).length))) = false) (h4 : jumpsB i = true) (h5 : goesOk ss i.a.toNat (nextB s.stack e) = false) : oneIns i s k e ss = (ss, 140) := by
  rw [oneIns, if_neg (by rw [h]; decide), if_neg (by rw [h2]; decide), if_neg (by rw [h3]; decide), if_pos (by rw [h4, h5]; rfl)]
theorem one_rest (h : (jumpsB i && decide (i.a ≤ k)) = false) (h2 : takesOk s.stack e.1 = true) (h3 : (decide (64 < (nextB s.stack e).length) || (decide (i.op = 22) && decide (0 < (nextB s.stack e).length))) = false) (h4 : (jumpsB i && !goesOk ss i.a.toNat (nextB s.stack e)) = false) :
    oneIns i s k e ss = (if staysB i = true then (if goesOk (if jumpsB i = true then goesTo ss i.a.toNat (nextB s.stack e) (s.steps + 1) else ss) (k + 1) (nextB s.stack e) = true then (goesTo (if jumpsB i = true then goesTo ss i.a.toNat (nextB s.stack e) (s.steps + 1) else ss) (k + 1) (nextB s.stack e) (s.steps + 1), 0) else ((if jumpsB i = true then goesTo ss i.a.toNat (nextB s.stack e) (s.steps + 1) else ss), 140)) else ((if jumpsB i = true then goesTo ss i.a.toNat (nextB s.stack e) (s.steps + 1) else ss), 0)) := by
  rw [oneIns, if_neg (by rw [h]; decide), if_neg (by rw [h2]; decide), if_neg (by rw [h3]; decide), if_neg (by rw [h4]; decide)]
end
theorem oneB_ins {c : GCode} {ss : List GSpot} {k : Nat} {i : GIns} (h : c.ins[k]? = some i) : oneB c ss k = oneIns i (spotAt ss k) k (effB c i (spotAt ss k).stack) ss := by
  unfold oneB; rw [h]
theorem ite_two {p : Prop} [Decidable p] {a b : List Int × List Int} (h1 : a.2.length ≤ 2) (h2 : b.2.length ≤ 2) : (if p then a else b).2.length ≤ 2 := by split <;> assumption
theorem pinsIn_five (k : Int) : (pinsIn k).length ≤ 5 := by
  refine Nat.le_trans (typesOf_len _) ?_
  unfold pinStr
  repeat' split
  all_goals simp
theorem ite_one {p : Prop} [Decidable p] {a b : List Int × List Int} (h1 : a.1.length ≤ 5) (h2 : b.1.length ≤ 5) : (if p then a else b).1.length ≤ 5 := by split <;> assumption
theorem eff_len1 (c : GCode) (i : GIns) (s : List Int) : (effB c i s).1.length ≤ 5 := by
  unfold effB
  repeat' apply ite_one
  all_goals first | exact pinsIn_five _ | simp
theorem eff_len (c : GCode) (i : GIns) (s : List Int) : (effB c i s).2.length ≤ 2 := by
  unfold effB
  repeat' apply ite_two
  all_goals simp
theorem grown_otherS {w w' : World} {g i : Nat} {o : Obj} (h : w.grownBy w' (some g)) (hi : w.heap[i]? = some o) (hne : i ≠ g) : w'.heap[i]? = some o := by
  rw [h.block i (Array.getElem?_eq_some_iff.1 hi).1 (fun e => hne (by cases e; rfl))]; exact hi
theorem below_dn9 (w : World) (n : Nat) : Below w.heap.size w (w.drewN n) := ⟨rfl, rfl, rfl, Nat.le_refl _, fun _ _ => rfl⟩
end Go.Proofs.Ytiogpainajokkaa

