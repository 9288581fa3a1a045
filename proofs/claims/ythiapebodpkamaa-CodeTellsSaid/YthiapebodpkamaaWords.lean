/- Words for the contracts of this seat: slices that are read, rows of the call's own, maps that a call makes, regions that draw their order. Nothing of the program is named here. -/
import Derived.WalkKit
import Derived.WalkSpells
import Derived.WalkLawsBesides
import Derived.OwnWalk
import Derived.Laws.OwnMore
import Derived.Below
import Derived.KernelRfl
import Derived.RowKit3
import Derived.Deep.DeepMust
namespace Go.Proofs.Ythiapebodpkamaa
open Go.RowKit
/-- A fact that the walk's simp does not look into. -/
structure Fact (p : Prop) : Prop where mk :: (out : p)

theorem ret_bool {a b : Bool} (h : a = b) : Ending.returned (.bool a) = Ending.returned (.bool b) := by rw [h]
theorem ret_int {k : IntKind} {a b : Int} (h : a = b) : Ending.returned (.int k a) = Ending.returned (.int k b) := by rw [h]

theorem cell_new (w : World) (v : Value) (T : TypeId) : (w.alloc (.cells #[v] T)).cell? ⟨w.heap.size, 0, none⟩ = some v := by
  rw [cell_of_row _ _ 0 _ _ (0, 0) (heap_alloc_new w _)]; rfl

/-! ### slices that are read -/
def Rd {α : Type} (enc : α → List Value) (k : Nat) (w : World) (v : Value) (xs : List α) : Prop :=
  xs.length ≤ 9223372036854775807 ∧ ∃ A c, v = .slice A xs.length c ∧ xs.length ≤ c ∧
    ((A = none → c = 0) ∧ (0 < xs.length → ∃ b off, A = some ⟨b, off, none⟩ ∧ ∀ j, (h : j < xs.length) → ∀ i u, (enc xs[j])[i]? = some u → w.cell? ⟨b, off + j * k + i, none⟩ = some u))
theorem Rd.move {α : Type} {enc : α → List Value} {k : Nat} {w w' : World} {v : Value} {xs : List α} (h : Rd enc k w v xs) (hm : ∀ a u, w.cell? a = some u → w'.cell? a = some u) : Rd enc k w' v xs := by
  obtain ⟨h0, A, c, h1, h2, h4, h3⟩ := h
  refine ⟨h0, A, c, h1, h2, h4, fun hp => ?_⟩
  obtain ⟨b, off, e, hc⟩ := h3 hp
  exact ⟨b, off, e, fun j hj i u hu => hm _ _ (hc j hj i u hu)⟩
theorem cell_below {w w1 : World} (h : Below w.heap.size w w1) (a : Addr) (v : Value) (hc : w.cell? a = some v) : w1.cell? a = some v := (h.cell (World.block_lt_of_cell? w a hc)).trans hc
theorem Rd.below {α : Type} {enc : α → List Value} {k : Nat} {w w' : World} {v : Value} {xs : List α} (h : Rd enc k w v xs) (hb : Below w.heap.size w w') : Rd enc k w' v xs := h.move (cell_below hb)

/-- A load of the cells of 'cs', in the form at which the walk stands still. -/
theorem load_list (P : Program) (W : World) (a : Addr) (cs : List Value) (k : Nat) (hk : cs.length = k) (h : ∀ j v, cs[j]? = some v → W.cell? (a.add j) = some v) : Sem.run P (loadCellsFrom a 0 k #[]) W = .ok cs.toArray W := by
  have := run_loadCells_list (P := P) (w := W) a cs h
  rw [hk] at this
  simpa [loadCells] using this

/-! ### rows of the call's own -/
def Own {α : Type} (E : TypeId) (k : Nat) (enc : α → List Value) (w : World) (base : Nat) (v : Value) (xs : List α) : Prop := w.ownsRow base E k v xs.length (xs.flatMap enc)
theorem Own.nil {α : Type} (E : TypeId) (k : Nat) (enc : α → List Value) (w : World) (base : Nat) : Own E k enc w base (.slice none 0 0) [] := World.ownsRow_nil _ _ _ _
theorem grown_below {w w1 : World} (h : Below w.heap.size w w1) (row : Option Nat) : w.grownBy w1 row := ⟨h.os, h.tape, h.output, h.size, fun i hi _ => h.block i hi⟩
theorem Own.below {α : Type} {E : TypeId} {k : Nat} {enc : α → List Value} {w w' : World} {base : Nat} {v : Value} {xs : List α} (h : Own E k enc w base v xs) (hb : Below w.heap.size w w') : Own E k enc w' base v xs :=
  World.ownsRow.kept h (grown_below hb none) (by cases v.ownBlock <;> simp)
theorem Own.lower {α : Type} {E : TypeId} {k : Nat} {enc : α → List Value} {w : World} {base base' : Nat} {v : Value} {xs : List α} (h : Own E k enc w base v xs) (hb : base' ≤ base) : Own E k enc w base' v xs := by
  obtain ⟨h1, h2⟩ := h
  refine ⟨h1, ?_⟩
  rcases h2 with h2 | ⟨g, cap, cur, hv, hg, r⟩
  · exact .inl h2
  · exact .inr ⟨g, cap, cur, hv, Nat.le_trans hb hg, r⟩
theorem flatMap_at {α : Type} {enc : α → List Value} {k : Nat} (hk : ∀ x, (enc x).length = k) (xs : List α) (j : Nat) (h : j < xs.length) (i : Nat) (u : Value) (hu : (enc xs[j])[i]? = some u) : (xs.flatMap enc)[j * k + i]? = some u := by
  induction xs generalizing j with
  | nil => exact absurd h (by simp)
  | cons x l ih =>
    have hi : i < (enc ((x :: l)[j])).length := (List.getElem?_eq_some_iff.1 hu).1
    rw [hk] at hi
    cases j with
    | zero =>
      rw [List.flatMap_cons, List.getElem?_append_left (by rw [hk]; omega)]
      simpa using hu
    | succ j =>
      rw [List.flatMap_cons, List.getElem?_append_right (by rw [hk, Nat.add_mul]; omega), hk]
      have := ih j (by simpa using h) (by simpa using hu)
      rw [show (j + 1) * k + i - k = j * k + i by rw [Nat.add_mul]; omega]
      exact this
theorem flatMap_len {α : Type} {enc : α → List Value} {k : Nat} (hk : ∀ x, (enc x).length = k) (xs : List α) : (xs.flatMap enc).length = xs.length * k := by
  induction xs with
  | nil => simp
  | cons x l ih => rw [List.flatMap_cons, List.length_append, hk, ih, List.length_cons, Nat.add_mul]; omega
theorem add_plain (g j : Nat) : (⟨g, 0, none⟩ : Addr).add j = ⟨g, j, none⟩ := by unfold Addr.add; split <;> simp_all
theorem Own.rd {α : Type} {E : TypeId} {k : Nat} {enc : α → List Value} (hk : ∀ x, (enc x).length = k) {w : World} {base : Nat} {v : Value} {xs : List α} (h : Own E k enc w base v xs) : Rd enc k w v xs := by
  have hc0 := fun g => World.ownsRow.cells (g := g) h
  rcases h.2 with ⟨rfl, h0⟩ | ⟨g, cap, cur, rfl, hg, hh, hn, hm, _⟩
  · exact ⟨by omega, none, 0, by rw [h0], by omega, fun _ => rfl, fun hp => by omega⟩
  · refine ⟨by simp only [maxLen] at hm; omega, _, cap, rfl, hn, (fun e => by cases e), fun _ => ⟨g, 0, rfl, fun j hj i u hu => ?_⟩⟩
    have := hc0 g rfl (j * k + i) u (flatMap_at hk xs j hj i u hu)
    rw [add_plain] at this
    rw [Nat.zero_add]
    exact this
theorem grown_trans {a b c : World} {row : Option Nat} (h : a.grownBy b row) (k : b.grownBy c row) : a.grownBy c row :=
  ⟨k.os.trans h.os, k.tape.trans h.tape, k.output.trans h.output, Nat.le_trans h.size k.size, fun i hi hr => (k.block i (Nat.lt_of_lt_of_le hi h.size) hr).trans (h.block i hi hr)⟩
/-- One element appended: its cells lie in a block that was just laid. -/
theorem wpList_push {P : Program} {α : Type} {wr : World} {ops : Array Oper} {rest : List Oper} {o : Oper} {a : Act} {Q : Exit → Act → World → Prop} (hgd : o.guard = none) (s x : Operand) (t : TypeId)
    (ho : o.op = .call { callee := .builtin .append, args := #[s, x], argTypes := #[t, t] })
    (base : Nat) (e : TypeId) (i : TypeInfo) (z : Value) (size bytes : Nat) (ht : P.underlying t = some (.slice e)) (hi : P.info? e = some i) (hz : i.zero = some z)
    (hsize : i.size = size) (hby : i.bytes = bytes) (hzs : z.cells.size = size) (hsz : 0 < size) (hb0 : 0 < bytes) (enc : α → List Value)
    (v : Value) (xs : List α) (hs : a.eval s = v) (hown : Own e size enc wr base v xs) (y : α)
    (hx : a.eval x = .slice (some ⟨wr.heap.size, 0, none⟩) 1 1) (hl : (enc y).length = size) (h1 : ∀ u ∈ enc y, u.oneCell' = true)
    (hn : (xs.length + 1) * bytes ≤ 140737488355328) (hb : base ≤ wr.heap.size)
    (h : ∀ v' w', Own e size enc w' base v' (xs ++ [y]) → wr.grownBy w' v.ownBlock → Below base wr w' → wpList P ops Q rest (a.put o.dst v') w') : wpList P ops Q (o :: rest) a (wr.alloc (.cells (enc y).toArray e)) := by
  have hm : xs.length + 1 ≤ maxLen := by
    have := Nat.le_trans (Nat.le_mul_of_pos_right (xs.length + 1) hb0) hn
    simp only [maxLen]; omega
  have hown' : (wr.alloc (.cells (enc y).toArray e)).ownsRow base e size v xs.length (xs.flatMap enc) := World.ownsRow.alloc hown _
  refine wpList_append_own (wr.alloc _) hgd s x t ho base e i z size bytes ht hi hz hsize hby hzs hsz v xs.length (xs.flatMap enc) hs hown' ⟨wr.heap.size, 0, none⟩ 1 1 (enc y) hx (by rw [hl]; omega) ?_ h1 hm hn (by simp; omega) ?_
  · intro j u hu
    rw [add_plain, cell_of_row (wr.alloc (.cells (enc y).toArray e)) wr.heap.size j (enc y).toArray e (0, 0) (heap_alloc_new wr _)]
    simpa using hu
  · intro v' w' ho' hg _
    have hg' : wr.grownBy w' v.ownBlock := grown_trans (World.grownBy_alloc wr _ _) hg
    refine h v' w' ?_ hg' ((Below.refl base wr).grown hg' hb (fun k hk => (World.ownsRow.lt hown k hk).1))
    show w'.ownsRow base e size v' (xs ++ [y]).length ((xs ++ [y]).flatMap enc)
    rw [List.length_append, List.flatMap_append]
    simpa using ho'
def oneU8 (x : Int) : List Value := [.int .u8 x]
theorem oneU8_len (x : Int) : (oneU8 x).length = 1 := rfl

theorem one_block (w : World) (o1 : Obj) : Below w.heap.size w (w.alloc o1) ∧ (w.alloc o1).heap[w.heap.size]? = some o1 ∧ (w.alloc o1).heap.size = w.heap.size + 1 :=
  ⟨(Below.refl _ _).alloc (Nat.le_refl _) _, heap_alloc_new w _, by simp⟩
theorem two_blocks (w : World) (o1 o2 : Obj) : Below w.heap.size w ((w.alloc o1).alloc o2) ∧ ((w.alloc o1).alloc o2).heap[w.heap.size]? = some o1 ∧ ((w.alloc o1).alloc o2).heap[w.heap.size + 1]? = some o2 ∧ ((w.alloc o1).alloc o2).heap.size = w.heap.size + 1 + 1 := by
  have s1 : (w.alloc o1).heap.size = w.heap.size + 1 := by simp
  refine ⟨((Below.refl _ _).alloc (Nat.le_refl _) _).alloc (by omega) _, ?_, ?_, by simp⟩
  · rw [heap_alloc_old _ _ (by omega)]; exact heap_alloc_new w _
  · rw [← s1]; exact heap_alloc_new (w.alloc o1) _
theorem three_blocks (w : World) (o1 o2 o3 : Obj) : ∃ w0, w0 = ((w.alloc o1).alloc o2).alloc o3 ∧ Below w.heap.size w w0 ∧ w0.heap[w.heap.size]? = some o1 ∧ w0.heap[w.heap.size + 1]? = some o2 ∧ w0.heap[w.heap.size + 1 + 1]? = some o3 ∧ w0.heap.size = w.heap.size + 1 + 1 + 1 := by
  obtain ⟨h1, h2, h3, h4⟩ := two_blocks w o1 o2
  refine ⟨_, rfl, h1.alloc (by omega) _, ?_, ?_, ?_, by simp⟩
  · rw [heap_alloc_old _ _ (by omega)]; exact h2
  · rw [heap_alloc_old _ _ (by omega)]; exact h3
  · rw [← h4]; exact heap_alloc_new _ _

/-! ### the first place where a predicate holds -/
def idxFrom (p : Nat → Bool) : Nat → Nat → Int
  | 0, _ => -1
  | f + 1, j => if p j = true then (j : Int) else idxFrom p f (j + 1)
theorem idxFrom_any (p : Nat → Bool) (f : Nat) : ∀ j, (0 ≤ idxFrom p f j ↔ ∃ i, j ≤ i ∧ i < j + f ∧ p i = true) := by
  induction f with
  | zero => intro j; simp only [idxFrom]; constructor
            · intro h; omega
            · rintro ⟨i, h1, h2, _⟩; omega
  | succ f ih =>
    intro j
    simp only [idxFrom]
    by_cases h : p j = true
    · rw [if_pos h]; exact ⟨fun _ => ⟨j, by omega, by omega, h⟩, fun _ => by omega⟩
    · rw [if_neg h, ih]
      constructor
      · rintro ⟨i, h1, h2, h3⟩; exact ⟨i, by omega, by omega, h3⟩
      · rintro ⟨i, h1, h2, h3⟩
        have : i ≠ j := fun e => h (e ▸ h3)
        exact ⟨i, by omega, by omega, h3⟩
theorem rd_nil {α : Type} (enc : α → List Value) (k : Nat) (w : World) : Rd enc k w (.slice none 0 0) [] := ⟨by simp, none, 0, rfl, Nat.le_refl _, fun _ => rfl, fun h => absurd h (by simp)⟩
theorem rd_new {α : Type} (enc : α → List Value) (k : Nat) (hk : ∀ x, (enc x).length = k) (w : World) (xs : List α) (T : TypeId) (h : xs.length ≤ 9223372036854775807) : Rd enc k (w.alloc (.cells (xs.flatMap enc).toArray T)) (.slice (some ⟨w.heap.size, 0, none⟩) xs.length xs.length) xs := by
  refine ⟨h, _, _, rfl, Nat.le_refl _, (fun h => by cases h), fun _ => ⟨w.heap.size, 0, rfl, fun j hj i u hu => ?_⟩⟩
  rw [cell_of_row _ _ _ _ _ (0, 0) (heap_alloc_new w _)]
  have := flatMap_at hk xs j hj i u hu
  simpa using this
theorem Own.slice {α : Type} {E : TypeId} {k : Nat} {enc : α → List Value} {w : World} {base : Nat} {v : Value} {xs : List α} (h : Own E k enc w base v xs) : ∃ A n c, v = .slice A n c := by
  rcases h.2 with ⟨rfl, _⟩ | ⟨g, cap, cur, rfl, _⟩
  · exact ⟨_, _, _, rfl⟩
  · exact ⟨_, _, _, rfl⟩
theorem Own.slice2 {α : Type} {E : TypeId} {k : Nat} {enc : α → List Value} {w : World} {base : Nat} {v : Value} {xs : List α} (h : Own E k enc w base v xs) : ∃ A c, v = .slice A xs.length c := by
  rcases h.2 with ⟨rfl, h0⟩ | ⟨g, cap, cur, rfl, _⟩
  · exact ⟨none, 0, by rw [h0]⟩
  · exact ⟨_, _, rfl⟩
end Go.Proofs.Ythiapebodpkamaa

