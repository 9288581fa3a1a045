/- Words for the contracts of this seat: slices that are read, rows of the call's own, maps that a call makes, regions that draw their order. Nothing of the program is named here. -/
import Derived.WalkKit
import Derived.WalkSpells
import Derived.WalkLawsBesides
import Derived.OwnWalk
import Derived.Laws.OwnMore
import Derived.Below
import Derived.KernelRfl
import Derived.RowKit3
import Derived.Deep.DeepMust
import Derived.Test.YtiogpainajokkaaProg
import Derived.Outline
import Derived.BigQuiet
import Derived.Orders
import Derived.Carry
import Derived.MapKept
import Derived.Maps.Own
namespace Go.Proofs.Ytiogpainajokkaa
open Go.RowKit
/-- A fact that the walk's simp does not look into. -/
structure Fact (p : Prop) : Prop where mk :: (out : p)

theorem ret_bool {a b : Bool} (h : a = b) : Ending.returned (.bool a) = Ending.returned (.bool b) := by rw [h]
theorem ret_int {k : IntKind} {a b : Int} (h : a = b) : Ending.returned (.int k a) = Ending.returned (.int k b) := by rw [h]

theorem cell_new (w : World) (v : Value) (T : TypeId) : (w.alloc (.cells #[v] T)).cell? ⟨w.heap.size, 0, none⟩ = some v := by
  rw [cell_of_row _ _ 0 _ _ (0, 0) (heap_alloc_new w _)]; rfl

/-! ### slices that are read -/
def Rd {α : Type} (enc : α → List Value) (k : Nat) (w : World) (v : Value) (xs : List α) : Prop :=
  xs.length ≤ 9223372036854775807 ∧ ∃ A c, v = .slice A xs.length c ∧ xs.length ≤ c ∧
    ((A = none → c = 0) ∧ (0 < xs.length → ∃ b off, A = some ⟨b, off, none⟩ ∧ ∀ j, (h : j < xs.length) → ∀ i u, (enc xs[j])[i]? = some u → w.cell? ⟨b, off + j * k + i, none⟩ = some u))
theorem Rd.move {α : Type} {enc : α → List Value} {k : Nat} {w w' : World} {v : Value} {xs : List α} (h : Rd enc k w v xs) (hm : ∀ a u, w.cell? a = some u → w'.cell? a = some u) : Rd enc k w' v xs := by
  obtain ⟨h0, A, c, h1, h2, h4, h3⟩ := h
  refine ⟨h0, A, c, h1, h2, h4, fun hp => ?_⟩
  obtain ⟨b, off, e, hc⟩ := h3 hp
  exact ⟨b, off, e, fun j hj i u hu => hm _ _ (hc j hj i u hu)⟩
theorem cell_below {w w1 : World} (h : Below w.heap.size w w1) (a : Addr) (v : Value) (hc : w.cell? a = some v) : w1.cell? a = some v := (h.cell (World.block_lt_of_cell? w a hc)).trans hc
theorem Rd.below {α : Type} {enc : α → List Value} {k : Nat} {w w' : World} {v : Value} {xs : List α} (h : Rd enc k w v xs) (hb : Below w.heap.size w w') : Rd enc k w' v xs := h.move (cell_below hb)

/-- A load of the cells of 'cs', in the form at which the walk stands still. -/
theorem load_list (P : Program) (W : World) (a : Addr) (cs : List Value) (k : Nat) (hk : cs.length = k) (h : ∀ j v, cs[j]? = some v → W.cell? (a.add j) = some v) : Sem.run P (loadCellsFrom a 0 k #[]) W = .ok cs.toArray W := by
  have := run_loadCells_list (P := P) (w := W) a cs h
  rw [hk] at this
  simpa [loadCells] using this

/-! ### rows of the call's own -/
def Own {α : Type} (E : TypeId) (k : Nat) (enc : α → List Value) (w : World) (base : Nat) (v : Value) (xs : List α) : Prop := w.ownsRow base E k v xs.length (xs.flatMap enc)
theorem Own.nil {α : Type} (E : TypeId) (k : Nat) (enc : α → List Value) (w : World) (base : Nat) : Own E k enc w base (.slice none 0 0) [] := World.ownsRow_nil _ _ _ _
theorem grown_below {w w1 : World} (h : Below w.heap.size w w1) (row : Option Nat) : w.grownBy w1 row := ⟨h.os, h.tape, h.output, h.size, fun i hi _ => h.block i hi⟩
theorem Own.below {α : Type} {E : TypeId} {k : Nat} {enc : α → List Value} {w w' : World} {base : Nat} {v : Value} {xs : List α} (h : Own E k enc w base v xs) (hb : Below w.heap.size w w') : Own E k enc w' base v xs :=
  World.ownsRow.kept h (grown_below hb none) (by cases v.ownBlock <;> simp)
theorem Own.lower {α : Type} {E : TypeId} {k : Nat} {enc : α → List Value} {w : World} {base base' : Nat} {v : Value} {xs : List α} (h : Own E k enc w base v xs) (hb : base' ≤ base) : Own E k enc w base' v xs := by
  obtain ⟨h1, h2⟩ := h
  refine ⟨h1, ?_⟩
  rcases h2 with h2 | ⟨g, cap, cur, hv, hg, r⟩
  · exact .inl h2
  · exact .inr ⟨g, cap, cur, hv, Nat.le_trans hb hg, r⟩
theorem flatMap_at {α : Type} {enc : α → List Value} {k : Nat} (hk : ∀ x, (enc x).length = k) (xs : List α) (j : Nat) (h : j < xs.length) (i : Nat) (u : Value) (hu : (enc xs[j])[i]? = some u) : (xs.flatMap enc)[j * k + i]? = some u := by
  induction xs generalizing j with
  | nil => exact absurd h (by simp)
  | cons x l ih =>
    have hi : i < (enc ((x :: l)[j])).length := (List.getElem?_eq_some_iff.1 hu).1
    rw [hk] at hi
    cases j with
    | zero =>
      rw [List.flatMap_cons, List.getElem?_append_left (by rw [hk]; omega)]
      simpa using hu
    | succ j =>
      rw [List.flatMap_cons, List.getElem?_append_right (by rw [hk, Nat.add_mul]; omega), hk]
      have := ih j (by simpa using h) (by simpa using hu)
      rw [show (j + 1) * k + i - k = j * k + i by rw [Nat.add_mul]; omega]
      exact this
theorem flatMap_len {α : Type} {enc : α → List Value} {k : Nat} (hk : ∀ x, (enc x).length = k) (xs : List α) : (xs.flatMap enc).length = xs.length * k := by
  induction xs with
  | nil => simp
  | cons x l ih => rw [List.flatMap_cons, List.length_append, hk, ih, List.length_cons, Nat.add_mul]; omega
theorem add_plain (g j : Nat) : (⟨g, 0, none⟩ : Addr).add j = ⟨g, j, none⟩ := by unfold Addr.add; split <;> simp_all
theorem Own.rd {α : Type} {E : TypeId} {k : Nat} {enc : α → List Value} (hk : ∀ x, (enc x).length = k) {w : World} {base : Nat} {v : Value} {xs : List α} (h : Own E k enc w base v xs) : Rd enc k w v xs := by
  have hc0 := fun g => World.ownsRow.cells (g := g) h
  rcases h.2 with ⟨rfl, h0⟩ | ⟨g, cap, cur, rfl, hg, hh, hn, hm, _⟩
  · exact ⟨by omega, none, 0, by rw [h0], by omega, fun _ => rfl, fun hp => by omega⟩
  · refine ⟨by simp only [maxLen] at hm; omega, _, cap, rfl, hn, (fun e => by cases e), fun _ => ⟨g, 0, rfl, fun j hj i u hu => ?_⟩⟩
    have := hc0 g rfl (j * k + i) u (flatMap_at hk xs j hj i u hu)
    rw [add_plain] at this
    rw [Nat.zero_add]
    exact this
theorem grown_trans {a b c : World} {row : Option Nat} (h : a.grownBy b row) (k : b.grownBy c row) : a.grownBy c row :=
  ⟨k.os.trans h.os, k.tape.trans h.tape, k.output.trans h.output, Nat.le_trans h.size k.size, fun i hi hr => (k.block i (Nat.lt_of_lt_of_le hi h.size) hr).trans (h.block i hi hr)⟩
/-- One element appended: its cells lie in a block that was just laid. -/
theorem wpList_push {P : Program} {α : Type} {wr : World} {ops : Array Oper} {rest : List Oper} {o : Oper} {a : Act} {Q : Exit → Act → World → Prop} (hgd : o.guard = none) (s x : Operand) (t : TypeId)
    (ho : o.op = .call { callee := .builtin .append, args := #[s, x], argTypes := #[t, t] })
    (base : Nat) (e : TypeId) (i : TypeInfo) (z : Value) (size bytes : Nat) (ht : P.underlying t = some (.slice e)) (hi : P.info? e = some i) (hz : i.zero = some z)
    (hsize : i.size = size) (hby : i.bytes = bytes) (hzs : z.cells.size = size) (hsz : 0 < size) (hb0 : 0 < bytes) (enc : α → List Value)
    (v : Value) (xs : List α) (hs : a.eval s = v) (hown : Own e size enc wr base v xs) (y : α)
    (hx : a.eval x = .slice (some ⟨wr.heap.size, 0, none⟩) 1 1) (hl : (enc y).length = size) (h1 : ∀ u ∈ enc y, u.oneCell' = true)
    (hn : (xs.length + 1) * bytes ≤ 140737488355328) (hb : base ≤ wr.heap.size)
    (h : ∀ v' w', Own e size enc w' base v' (xs ++ [y]) → wr.grownBy w' v.ownBlock → Below base wr w' → wpList P ops Q rest (a.put o.dst v') w') : wpList P ops Q (o :: rest) a (wr.alloc (.cells (enc y).toArray e)) := by
  have hm : xs.length + 1 ≤ maxLen := by
    have := Nat.le_trans (Nat.le_mul_of_pos_right (xs.length + 1) hb0) hn
    simp only [maxLen]; omega
  have hown' : (wr.alloc (.cells (enc y).toArray e)).ownsRow base e size v xs.length (xs.flatMap enc) := World.ownsRow.alloc hown _
  refine wpList_append_own (wr.alloc _) hgd s x t ho base e i z size bytes ht hi hz hsize hby hzs hsz v xs.length (xs.flatMap enc) hs hown' ⟨wr.heap.size, 0, none⟩ 1 1 (enc y) hx (by rw [hl]; omega) ?_ h1 hm hn (by simp; omega) ?_
  · intro j u hu
    rw [add_plain, cell_of_row (wr.alloc (.cells (enc y).toArray e)) wr.heap.size j (enc y).toArray e (0, 0) (heap_alloc_new wr _)]
    simpa using hu
  · intro v' w' ho' hg _
    have hg' : wr.grownBy w' v.ownBlock := grown_trans (World.grownBy_alloc wr _ _) hg
    refine h v' w' ?_ hg' ((Below.refl base wr).grown hg' hb (fun k hk => (World.ownsRow.lt hown k hk).1))
    show w'.ownsRow base e size v' (xs ++ [y]).length ((xs ++ [y]).flatMap enc)
    rw [List.length_append, List.flatMap_append]
    simpa using ho'
def oneU8 (x : Int) : List Value := [.int .u8 x]
theorem oneU8_len (x : Int) : (oneU8 x).length = 1 := rfl

theorem one_block (w : World) (o1 : Obj) : Below w.heap.size w (w.alloc o1) ∧ (w.alloc o1).heap[w.heap.size]? = some o1 ∧ (w.alloc o1).heap.size = w.heap.size + 1 :=
  ⟨(Below.refl _ _).alloc (Nat.le_refl _) _, heap_alloc_new w _, by simp⟩
theorem two_blocks (w : World) (o1 o2 : Obj) : Below w.heap.size w ((w.alloc o1).alloc o2) ∧ ((w.alloc o1).alloc o2).heap[w.heap.size]? = some o1 ∧ ((w.alloc o1).alloc o2).heap[w.heap.size + 1]? = some o2 ∧ ((w.alloc o1).alloc o2).heap.size = w.heap.size + 1 + 1 := by
  have s1 : (w.alloc o1).heap.size = w.heap.size + 1 := by simp
  refine ⟨((Below.refl _ _).alloc (Nat.le_refl _) _).alloc (by omega) _, ?_, ?_, by simp⟩
  · rw [heap_alloc_old _ _ (by omega)]; exact heap_alloc_new w _
  · rw [← s1]; exact heap_alloc_new (w.alloc o1) _
theorem three_blocks (w : World) (o1 o2 o3 : Obj) : ∃ w0, w0 = ((w.alloc o1).alloc o2).alloc o3 ∧ Below w.heap.size w w0 ∧ w0.heap[w.heap.size]? = some o1 ∧ w0.heap[w.heap.size + 1]? = some o2 ∧ w0.heap[w.heap.size + 1 + 1]? = some o3 ∧ w0.heap.size = w.heap.size + 1 + 1 + 1 := by
  obtain ⟨h1, h2, h3, h4⟩ := two_blocks w o1 o2
  refine ⟨_, rfl, h1.alloc (by omega) _, ?_, ?_, ?_, by simp⟩
  · rw [heap_alloc_old _ _ (by omega)]; exact h2
  · rw [heap_alloc_old _ _ (by omega)]; exact h3
  · rw [← h4]; exact heap_alloc_new _ _

/-! ### the first place where a predicate holds -/
def idxFrom (p : Nat → Bool) : Nat → Nat → Int
  | 0, _ => -1
  | f + 1, j => if p j = true then (j : Int) else idxFrom p f (j + 1)
theorem idxFrom_any (p : Nat → Bool) (f : Nat) : ∀ j, (0 ≤ idxFrom p f j ↔ ∃ i, j ≤ i ∧ i < j + f ∧ p i = true) := by
  induction f with
  | zero => intro j; simp only [idxFrom]; constructor
            · intro h; omega
            · rintro ⟨i, h1, h2, _⟩; omega
  | succ f ih =>
    intro j
    simp only [idxFrom]
    by_cases h : p j = true
    · rw [if_pos h]; exact ⟨fun _ => ⟨j, by omega, by omega, h⟩, fun _ => by omega⟩
    · rw [if_neg h, ih]
      constructor
      · rintro ⟨i, h1, h2, h3⟩; exact ⟨i, by omega, by omega, h3⟩
      · rintro ⟨i, h1, h2, h3⟩
        have : i ≠ j := fun e => h (e ▸ h3)
        exact ⟨i, by omega, by omega, h3⟩
theorem rd_nil {α : Type} (enc : α → List Value) (k : Nat) (w : World) : Rd enc k w (.slice none 0 0) [] := ⟨by simp, none, 0, rfl, Nat.le_refl _, fun _ => rfl, fun h => absurd h (by simp)⟩
theorem rd_new {α : Type} (enc : α → List Value) (k : Nat) (hk : ∀ x, (enc x).length = k) (w : World) (xs : List α) (T : TypeId) (h : xs.length ≤ 9223372036854775807) : Rd enc k (w.alloc (.cells (xs.flatMap enc).toArray T)) (.slice (some ⟨w.heap.size, 0, none⟩) xs.length xs.length) xs := by
  refine ⟨h, _, _, rfl, Nat.le_refl _, (fun h => by cases h), fun _ => ⟨w.heap.size, 0, rfl, fun j hj i u hu => ?_⟩⟩
  rw [cell_of_row _ _ _ _ _ (0, 0) (heap_alloc_new w _)]
  have := flatMap_at hk xs j hj i u hu
  simpa using this
theorem Own.slice {α : Type} {E : TypeId} {k : Nat} {enc : α → List Value} {w : World} {base : Nat} {v : Value} {xs : List α} (h : Own E k enc w base v xs) : ∃ A n c, v = .slice A n c := by
  rcases h.2 with ⟨rfl, _⟩ | ⟨g, cap, cur, rfl, _⟩
  · exact ⟨_, _, _, rfl⟩
  · exact ⟨_, _, _, rfl⟩
theorem Own.slice2 {α : Type} {E : TypeId} {k : Nat} {enc : α → List Value} {w : World} {base : Nat} {v : Value} {xs : List α} (h : Own E k enc w base v xs) : ∃ A c, v = .slice A xs.length c := by
  rcases h.2 with ⟨rfl, h0⟩ | ⟨g, cap, cur, rfl, _⟩
  · exact ⟨none, 0, by rw [h0]⟩
  · exact ⟨_, _, rfl⟩
end Go.Proofs.Ytiogpainajokkaa

namespace Go.Proofs.Ytiogpainajokkaa
open Go.RowKit
def rangeOf (t : Int) : Int × Int := if t = 1 then (0, 1) else if t = 2 then (-128, 127) else if t = 3 then (-32768, 32767) else if t = 4 then (-2147483648, 2147483647) else if t = 5 then (0, 4294967295) else (0, 0)
theorem range_any (t : Int) (w : World) : Calls Try.prog 90 #[.int .u8 t] w fun e w' => e = .returned (.tuple #[.int .i64 (rangeOf t).1, .int .i64 (rangeOf t).2]) ∧ w = w' := by
  unfold rangeOf
  go_enter Try.func90, Try.ntmps90
  go_wp2
  all_goals go_ret2
  all_goals (refine ⟨?_, rfl⟩; simp_all)
/-! ### types, Pins -/
def typeOf (c : UInt8) : List Int := if c = 98 then [1] else if c = 100 then [4] else if c = 117 then [5] else []
def typesOf (l : List UInt8) : List Int := l.flatMap typeOf
theorem typesOf_snoc (l : List UInt8) (c : UInt8) : typesOf (l ++ [c]) = typesOf l ++ typeOf c := by simp [typesOf]
theorem typesOf_len (l : List UInt8) : (typesOf l).length ≤ l.length := by
  induction l with
  | nil => simp [typesOf]
  | cons c l ih =>
    have : (typeOf c).length ≤ 1 := by
      unfold typeOf
      repeat' split
      all_goals simp
    simp only [typesOf, List.flatMap_cons, List.length_append, List.length_cons] at *
    omega
theorem take_snoc (s : ByteArray) (k : Nat) (h : k < s.size) : s.data.toList.take (k + 1) = s.data.toList.take k ++ [s[k]] := by
  rw [List.take_succ_eq_append_getElem (by simpa using h)]; rfl
theorem byte_ne {c : UInt8} {n : Nat} (h : c ≠ UInt8.ofNat n) (hn : n < 256) : ((c.toNat : Int) == (n : Int)) = false := by
  rw [beq_eq_false_iff_ne]
  intro e
  apply h
  apply UInt8.toNat_inj.1
  have : (UInt8.ofNat n).toNat = n := by simp; omega
  omega
theorem Try.infoType : (Try.prog.info? 41).map (fun i => (i.zero, i.size, i.bytes)) = some (some (.int .u8 0), 1, 1) := by kernel_rfl
set_option maxHeartbeats 1000000 in
set_option maxRecDepth 100000 in
theorem types_any (s : ByteArray) (w : World) (hs : s.size ≤ 140737488351232) : Calls Try.prog 155 #[.string s] w fun e w' => ∃ v, e = .returned v ∧ Own 41 1 oneU8 w' w.heap.size v (typesOf s.data.toList) ∧ Below w.heap.size w w' := by
  obtain ⟨i0, hi, hz0, hz1, hz2⟩ := info_parts Try.infoType
  go_enter Try.func155, Try.ntmps155
  go_wp2
  go_loopw [3, 7] (fun v i wr => ∃ k : Nat, k ≤ s.size ∧ i = .int .i64 k ∧ Fact (Own 41 1 oneU8 wr w.heap.size v (typesOf (s.data.toList.take k))) ∧ Fact (Below w.heap.size w wr)) (fun _ i _ => s.size - (intOf i).toNat)
  case atStart => exact ⟨0, Nat.zero_le _, rfl, ⟨Own.nil _ _ _ _ _⟩, ⟨Below.refl _ _⟩⟩
  case round =>
    obtain ⟨k, hk, rfl, hown, hb⟩ := hrel
    by_cases hlt : k < s.size
    · have hsn := typesOf_snoc (s.data.toList.take k) s[k]
      have hlen := typesOf_len (s.data.toList.take k)
      have hlk : (s.data.toList.take k).length = k := by simp; omega
      rw [hlk] at hlen
      rw [← take_snoc s k hlt] at hsn
      have HS := Fact.mk hsn
      clear hsn hlk
      rcases (show s[k] = 98 ∨ s[k] = 100 ∨ s[k] = 117 ∨ (s[k] ≠ 98 ∧ s[k] ≠ 100 ∧ s[k] ≠ 117) by
        by_cases h1 : s[k] = 98
        · exact .inl h1
        by_cases h2 : s[k] = 100
        · exact .inr (.inl h2)
        by_cases h3 : s[k] = 117
        · exact .inr (.inr (.inl h3))
        exact .inr (.inr (.inr ⟨h1, h2, h3⟩))) with hc | hc | hc | ⟨hc1, hc2, hc3⟩
      · have h0 : ((s[k].toNat : Int) == 98) = true := by rw [hc]; rfl
        have hN : typeOf s[k] = [1] := by rw [hc]; rfl
        rw [hN] at HS
        clear hc hN
        go_wp2_with (at_builtin; refine wpList_push rfl _ _ 120 rfl w.heap.size 41 i0 (.int .u8 0) 1 1 Try.underlying120 hi hz0 hz1 hz2 rfl (by decide) (by decide) oneU8 _ _ rfl hown.out 1 rfl rfl (by simp [oneU8]; rfl) ?c1 hb.out.size ?_; case c1 => omega)
        intro v' w' ho' _ hb'
        go_wp2
        go_roundw
        case rel => exact ⟨k + 1, by omega, by go_num, ⟨by rw [HS.out]; exact ho'⟩, ⟨hb.out.trans hb'⟩⟩
        case measure => simp [intOf]; omega
      · have h0 : ((s[k].toNat : Int) == 98) = false := by rw [hc]; rfl
        have h1 : ((s[k].toNat : Int) == 100) = true := by rw [hc]; rfl
        have hN : typeOf s[k] = [4] := by rw [hc]; rfl
        rw [hN] at HS
        clear hc hN
        go_wp2_with (at_builtin; refine wpList_push rfl _ _ 120 rfl w.heap.size 41 i0 (.int .u8 0) 1 1 Try.underlying120 hi hz0 hz1 hz2 rfl (by decide) (by decide) oneU8 _ _ rfl hown.out 4 rfl rfl (by simp [oneU8]; rfl) ?c1 hb.out.size ?_; case c1 => omega)
        intro v' w' ho' _ hb'
        go_wp2
        go_roundw
        case rel => exact ⟨k + 1, by omega, by go_num, ⟨by rw [HS.out]; exact ho'⟩, ⟨hb.out.trans hb'⟩⟩
        case measure => simp [intOf]; omega
      · have h0 : ((s[k].toNat : Int) == 98) = false := by rw [hc]; rfl
        have h1 : ((s[k].toNat : Int) == 100) = false := by rw [hc]; rfl
        have h2 : ((s[k].toNat : Int) == 117) = true := by rw [hc]; rfl
        have hN : typeOf s[k] = [5] := by rw [hc]; rfl
        rw [hN] at HS
        clear hc hN
        go_wp2_with (at_builtin; refine wpList_push rfl _ _ 120 rfl w.heap.size 41 i0 (.int .u8 0) 1 1 Try.underlying120 hi hz0 hz1 hz2 rfl (by decide) (by decide) oneU8 _ _ rfl hown.out 5 rfl rfl (by simp [oneU8]; rfl) ?c1 hb.out.size ?_; case c1 => omega)
        intro v' w' ho' _ hb'
        go_wp2
        go_roundw
        case rel => exact ⟨k + 1, by omega, by go_num, ⟨by rw [HS.out]; exact ho'⟩, ⟨hb.out.trans hb'⟩⟩
        case measure => simp [intOf]; omega
      · have h0 := byte_ne (n := 98) hc1 (by decide)
        have h1 := byte_ne (n := 100) hc2 (by decide)
        have h2 := byte_ne (n := 117) hc3 (by decide)
        have hN : typeOf s[k] = [] := by simp [typeOf, hc1, hc2, hc3]
        rw [hN, List.append_nil] at HS
        clear hc1 hc2 hc3 hN
        go_wp2
        go_roundw
        case rel => exact ⟨k + 1, by omega, by go_num, ⟨by rw [HS.out]; exact hown.out⟩, hb⟩
        case measure => simp [intOf]; omega
    · go_wp2
      go_ret
      have := hown.out
      rw [List.take_of_length_le (by simp; omega)] at this
      exact ⟨_, rfl, this, hb.out⟩
end Go.Proofs.Ytiogpainajokkaa

namespace Go.Proofs.Ytiogpainajokkaa
open Go.RowKit
def wrapOf (t n : Int) : Int := if t = 1 then (if n = 0 then 0 else 1) else if t = 2 then IntKind.i8.wrap n else if t = 3 then IntKind.i16.wrap n else if t = 4 then IntKind.i32.wrap n else if t = 5 then IntKind.u32.wrap n else 0
theorem wrap64_small {n : Int} (h : -9223372036854775808 ≤ n) (h' : n ≤ 9223372036854775807) : wrap64 n = n := by
  unfold wrap64; omega
theorem wrap8_64 (n : Int) : wrap64 (IntKind.i8.wrap n) = IntKind.i8.wrap n := by
  simp only [IntKind.wrap, IntKind.bits, IntKind.signed]; unfold wrap64; simp; omega
theorem wrap16_64 (n : Int) : wrap64 (IntKind.i16.wrap n) = IntKind.i16.wrap n := by
  simp only [IntKind.wrap, IntKind.bits, IntKind.signed]; unfold wrap64; simp; omega
theorem wrap32_64 (n : Int) : wrap64 (wrap32 n) = IntKind.i32.wrap n := by
  simp only [IntKind.wrap, IntKind.bits, IntKind.signed]; unfold wrap64 wrap32; simp; omega
theorem wrapu32_64 (n : Int) : n % 4294967296 = IntKind.u32.wrap n := by
  simp only [IntKind.wrap, IntKind.bits, IntKind.signed]; simp
theorem wrap_any (t n : Int) (w : World) : Calls Try.prog 19 #[.int .u8 t, .int .i64 n] w fun e w' => e = .returned (.int .i64 (wrapOf t n)) ∧ w = w' := by
  unfold wrapOf
  go_enter Try.func19, Try.ntmps19
  go_wp2
  all_goals go_ret
  all_goals (refine ⟨?_, rfl⟩; first | (simp_all; done) | (simp_all [wrap8_64, wrap16_64, wrap32_64, wrapu32_64]; done))
def typedB (n : Int) : Bool := decide (1 ≤ n) && decide (n ≤ 5)
theorem typed_any (n : Int) (w : World) : Calls Try.prog 112 #[.int .i64 n] w fun e w' => e = .returned (.bool (typedB n)) ∧ w = w' := by
  unfold typedB
  go_enter Try.func112, Try.ntmps112
  go_wp2
  all_goals go_ret
  all_goals (refine ⟨?_, rfl⟩; first | (simp_all; done) | (simp_all; omega))
def withinB (t n : Int) : Bool := decide ((rangeOf t).1 ≤ n) && decide (n ≤ (rangeOf t).2)
theorem within_any (t n : Int) (w : World) : Calls Try.prog 113 #[.int .u8 t, .int .i64 n] w fun e w' => e = .returned (.bool (withinB t n)) ∧ w = w' := by
  unfold withinB
  go_enter Try.func113, Try.ntmps113
  go_wp2_with (go_at_call 90; refine (range_any _ _).mono ?_; rintro e w' ⟨rfl, rfl⟩)
  all_goals go_ret
  all_goals (refine ⟨?_, rfl⟩; first | (simp_all; done) | (simp_all; omega))
def namedB (s : ByteArray) : Bool := decide (1 ≤ s.size) && decide (s.size ≤ 40)
theorem named_any (s : ByteArray) (w : World) : Calls Try.prog 111 #[.string s] w fun e w' => e = .returned (.bool (namedB s)) ∧ w = w' := by
  have e40 : decide ((s.size : Int) ≤ 40) = decide (s.size ≤ 40) := by rw [decide_eq_decide]; omega
  unfold namedB
  go_enter Try.func111, Try.ntmps111
  go_wp2
  all_goals go_ret
  all_goals (refine ⟨?_, rfl⟩; first | (simp_all; done) | (simp_all; omega))
end Go.Proofs.Ytiogpainajokkaa

namespace Go.Proofs.Ytiogpainajokkaa
open Go.RowKit
def pinStr (k : Int) : List UInt8 × List UInt8 :=
  if k = 1 ∨ k = 2 ∨ k = 3 then ([98, 117], [98, 117]) else if k = 4 ∨ k = 5 then ([98, 98, 100], [98, 100]) else if k = 6 then ([98, 98, 98, 98, 100], [98, 98, 100])
  else if k = 7 ∨ k = 8 then ([98], [98]) else if k = 9 ∨ k = 10 then ([98, 98], [98]) else if k = 11 then ([98, 98, 98], [100, 98]) else ([], [])
def pinsIn (k : Int) : List Int := typesOf (pinStr k).1
def pinsOut (k : Int) : List Int := typesOf (pinStr k).2
def PinsPost (k : Int) (w : World) (e : Ending) (w' : World) : Prop := ∃ v1 v2, e = .returned (.tuple #[v1, v2]) ∧ Own 41 1 oneU8 w' w.heap.size v1 (pinsIn k) ∧ Own 41 1 oneU8 w' w.heap.size v2 (pinsOut k) ∧ Below w.heap.size w w'
theorem own_of_eq {E : TypeId} {k : Nat} {enc : Int → List Value} {w : World} {b : Nat} {v : Value} {xs ys : List Int} (h : ys = xs) (ho : Own E k enc w b v xs) : Own E k enc w b v ys := h ▸ ho
theorem pins_any (k : Int) (w : World) : Calls Try.prog 134 #[.int .u8 k] w (PinsPost k w) := by
  go_enter Try.func134, Try.ntmps134
  go_wp2_with fail
  all_goals
    refine (types_any _ _ (by decide)).mono ?_
    rintro e w1 ⟨v1, rfl, ho1, hb1⟩
    go_wp2_with fail
    refine (types_any _ _ (by decide)).mono ?_
    rintro e w2 ⟨v2, rfl, ho2, hb2⟩
    go_wp2_with fail
    go_ret2
    refine ⟨v1, v2, rfl, own_of_eq ?_ (ho1.below hb2), own_of_eq ?_ (ho2.lower hb1.size), hb1.trans (hb2.mono hb1.size)⟩ <;> (simp_all [pinsIn, pinsOut, pinStr]; done)
end Go.Proofs.Ytiogpainajokkaa

namespace Go.Proofs.Ytiogpainajokkaa
open Go.RowKit
def ub (b : Nat → Bool) (i : Nat) : Nat → Bool := fun j => if j = i then true else b j
theorem ub_self (b : Nat → Bool) (i : Nat) : ub b i i = true := by simp [ub]
theorem ub_ne {b : Nat → Bool} {i j : Nat} (h : j ≠ i) : ub b i j = b j := by simp [ub, h]
theorem filter_lt (l : List Nat) (p q : Nat → Bool) (i : Nat) (hi : i ∈ l) (h : ∀ x, q x = true → p x = true) (hp : p i = true) (hq : q i = false) : (l.filter q).length < (l.filter p).length := by
  induction l with
  | nil => cases hi
  | cons x l ih =>
    have hle : ∀ l : List Nat, (l.filter q).length ≤ (l.filter p).length := by
      intro l
      induction l with
      | nil => simp
      | cons y l ih2 =>
        rw [List.filter_cons, List.filter_cons]
        cases hqy : q y with
        | true => rw [h y hqy]; simpa using ih2
        | false => cases p y <;> simp <;> omega
    rw [List.filter_cons, List.filter_cons]
    rcases List.mem_cons.1 hi with rfl | hi
    · rw [hp, hq]
      have := hle l
      simp; omega
    · have := ih hi
      cases hqx : q x with
      | true => rw [h x hqx]; simpa using this
      | false => cases p x <;> simp <;> omega
section
variable {P : Program} {ops : Array Oper} {Q : Exit → Act → World → Prop} {md : Region.Mode}
theorem wpAny_inv (hac : ∀ i o, ops[i]? = some o → ∀ e ∈ o.after, Region.binds md e = true → e.on < i) (I : (Nat → Bool) → Act → World → Prop)
    (hs : ∀ i, i < ops.size → ∀ b a w, I b a w → b i = false → (∀ o, ops[i]? = some o → ∀ e ∈ o.after, Region.binds md e = true → b e.on = true) → wpOp P ops Q i (I (ub b i)) a w)
    (hf : ∀ b a w, (∀ j, j < ops.size → b j = true) → I b a w → Q .normal a w) :
    ∀ (fuel : Nat) (listed : Array Bool) (a : Act) (w : World), listed.size = ops.size → ((List.range ops.size).filter fun j => !listed.getD j true).length ≤ fuel → I (fun j => listed.getD j false) a w → wpAny P md ops Q fuel listed a w := by
  have hgd : ∀ (listed : Array Bool) (j : Nat), listed.size = ops.size → j < ops.size → ∀ d d', listed.getD j d = listed.getD j d' := by
    intro listed j hs hj d d'
    simp [Array.getD, show j < listed.size by omega]
  -- where nothing is ready, all is listed
  have hall : ∀ listed : Array Bool, listed.size = ops.size → Region.ready md ops listed = [] → ∀ m, ∀ j, j < m → j < ops.size → listed.getD j false = true := by
    intro listed hsz hr m
    induction m with
    | zero => intro j hj; omega
    | succ m ih =>
      intro j hj hjl
      cases hl : listed.getD j false with
      | true => rfl
      | false =>
        exfalso
        have hmem : j ∈ Region.ready md ops listed := by
          unfold Region.ready
          rw [List.mem_filter, List.mem_range]
          refine ⟨hjl, ?_⟩
          rw [hgd listed j hsz hjl true false, hl]
          have ho : ops[j]? = some ops[j] := Array.getElem?_eq_getElem hjl
          simp only [Bool.not_false, Bool.true_and, ho, Option.map_some, Option.getD_some, Array.all_eq_true_iff_forall_mem, Bool.or_eq_true]
          intro e he
          cases hb : Region.binds md e with
          | false => exact .inl rfl
          | true =>
            have hlt := hac j _ ho e he hb
            exact .inr (ih e.on (by omega) (by omega))
        rw [hr] at hmem
        cases hmem
  intro fuel
  induction fuel with
  | zero =>
    intro listed a w hsz hc hI
    have hno : Region.ready md ops listed = [] := by
      refine List.eq_nil_iff_forall_not_mem.2 (fun i hi => ?_)
      unfold Region.ready at hi
      rw [List.mem_filter] at hi
      have : i ∈ (List.range ops.size).filter fun j => !listed.getD j true := by
        rw [List.mem_filter]
        refine ⟨hi.1, ?_⟩
        have := hi.2
        simp only [Bool.and_eq_true] at this
        exact this.1
      have hlen := List.length_pos_of_mem this
      omega
    exact ⟨hno, hf _ a w (fun j hj => hall listed hsz hno (j + 1) j (by omega) hj) hI⟩
  | succ fuel ih =>
    intro listed a w hsz hc hI
    refine ⟨fun hr => hf _ a w (fun j hj => hall listed hsz hr (j + 1) j (by omega) hj) hI, fun i hi => ?_⟩
    unfold Region.ready at hi
    rw [List.mem_filter, List.mem_range] at hi
    obtain ⟨hlt, hi⟩ := hi
    simp only [Bool.and_eq_true, Bool.not_eq_true'] at hi
    obtain ⟨hi1, hi2⟩ := hi
    have hb : listed.getD i false = false := by rw [← hi1]; exact hgd listed i hsz hlt _ _
    have hub : (fun j => (listed.setIfInBounds i true).getD j false) = ub (fun j => listed.getD j false) i := by
      funext j
      simp only [ub]
      by_cases hj : j = i
      · subst hj
        simp [Array.getD, hsz, hlt]
      · rw [if_neg hj]
        simp [Array.getD_eq_getD_getElem?, Ne.symm hj]
    refine wpOp_mono (fun a' w' hI' => ih _ a' w' (by simpa using hsz) ?_ (by rw [hub]; exact hI')) (hs i hlt _ a w hI hb ?_)
    · have := filter_lt (List.range ops.size) (fun j => !listed.getD j true) (fun j => !(listed.setIfInBounds i true).getD j true) i (List.mem_range.2 hlt) ?_ (by simp [hi1]) (by simp [Array.getD, hsz, hlt])
      · omega
      · intro x hx
        simp only [Array.getD_eq_getD_getElem?, Array.getElem?_setIfInBounds, Bool.not_eq_true'] at hx ⊢
        by_cases hix : i = x
        · subst hix
          simp [hsz, hlt] at hx
        · rw [if_neg hix] at hx
          exact hx
    · intro o ho e he hbd
      rw [ho] at hi2
      simp only [Option.map_some, Option.getD_some, Array.all_eq_true_iff_forall_mem, Bool.or_eq_true, Bool.not_eq_true'] at hi2
      rcases hi2 e he with h | h
      · rw [hbd] at h; cases h
      · exact h
theorem wp_region_inv {id : Nat} {a : Act} {w : World} (hm : P.follows .mixedOrders = true) (hac : ∀ i o, ops[i]? = some o → ∀ e ∈ o.after, Region.binds .any e = true → e.on < i) (I : (Nat → Bool) → Act → World → Prop)
    (h0 : I (fun _ => false) a w.drew)
    (hs : ∀ i, i < ops.size → ∀ b a w, I b a w → b i = false → (∀ o, ops[i]? = some o → ∀ e ∈ o.after, Region.binds .any e = true → b e.on = true) → wpOp P ops Q i (I (ub b i)) a w)
    (hf : ∀ b a w, (∀ j, j < ops.size → b j = true) → I b a w → Q .normal a w) : (Code.region id ops true).wp P Q a w := by
  refine wp_region_any hm (wpAny_inv hac I hs hf _ _ _ _ (by simp) ?_ ?_)
  · exact Nat.le_trans (List.length_filter_le _ _) (by simp)
  · have : (fun j => (Array.replicate ops.size false).getD j false) = fun _ => false := by
      funext j
      simp only [Array.getD]
      split <;> simp
    rw [this]
    exact h0
theorem wpOp_of {i : Nat} {o : Oper} {K : Act → World → Prop} {a : Act} {w : World} (ho : ops[i]? = some o) (hg : o.guard = none) (h : o.wp P a w K Q) : wpOp P ops Q i K a w := by
  unfold wpOp
  rw [ho]
  simp only [Region.wanted, hg, if_true]
  exact .inl h
end
end Go.Proofs.Ytiogpainajokkaa

namespace Go.Proofs.Ytiogpainajokkaa
open Go.RowKit Go.MapKept
section
variable {κ : Type} [DecidableEq κ] {P : Program}
structure KeyLaw (P : Program) (K : TypeId) (d : TypeDesc) (mk : κ → Value) : Prop where
  und : P.underlying K = some d
  same : ∀ a b, Instr.sameNow d (mk a) (mk b) = some (decide (a = b))
  isKey : ∀ a, IsKey d (mk a)
  bits : ∀ a, Instr.sameBits 10000 (mk a) (mk a) = true
def look (a : κ) : List (κ × Value) → Option Value
  | [] => none
  | (b, v) :: l => if a = b then some v else look a l
def upd (a : κ) (v : Value) : List (κ × Value) → List (κ × Value)
  | [] => []
  | (b, u) :: l => if a = b then (a, v) :: l else (b, u) :: upd a v l
theorem look_append (a : κ) (l : List (κ × Value)) (b : κ) (v : Value) (h : look b l = none) : look a (l ++ [(b, v)]) = if a = b then some v else look a l := by
  induction l with
  | nil => simp [look]
  | cons p l ih =>
    obtain ⟨c, u⟩ := p
    simp only [List.cons_append, look] at h ⊢
    by_cases hbc : b = c
    · rw [if_pos hbc] at h; cases h
    · rw [if_neg hbc] at h
      by_cases hac : a = c
      · rw [if_pos hac, if_pos hac, if_neg (fun e : a = b => hbc (e.symm.trans hac))]
      · rw [if_neg hac, if_neg hac, ih h]
theorem look_upd (a : κ) (l : List (κ × Value)) (b : κ) (v : Value) (h : look b l ≠ none) : look a (upd b v l) = if a = b then some v else look a l := by
  induction l with
  | nil => exact absurd rfl h
  | cons p l ih =>
    obtain ⟨c, u⟩ := p
    simp only [look, upd] at h ⊢
    by_cases hbc : b = c
    · subst hbc
      rw [if_pos rfl]
      simp only [look]
      by_cases hab : a = b
      · rw [if_pos hab, if_pos hab]
      · rw [if_neg hab, if_neg hab, if_neg hab]
    · rw [if_neg hbc] at h ⊢
      simp only [look]
      by_cases hac : a = c
      · rw [if_pos hac, if_pos hac, if_neg (fun e : a = b => hbc (e.symm.trans hac))]
      · rw [if_neg hac, if_neg hac, ih h]
def MapOf (mk : κ → Value) (w : World) (B : Nat) (l : List (κ × Value)) : Prop := ∃ es clock, w.heap[B]? = some (.map es clock) ∧ es.toList.map (fun e => (e.key, e.val)) = l.map (fun p => (mk p.1, p.2))
def MapFn (mk : κ → Value) (w : World) (B : Nat) (m : κ → Option Value) : Prop := ∃ l, MapOf mk w B l ∧ ∀ a, look a l = m a
theorem findNow_look {K : TypeId} {d : TypeDesc} {mk : κ → Value} (L : KeyLaw P K d mk) (a : κ) : ∀ (es : List MapEntry) (l : List (κ × Value)), es.map (fun e => (e.key, e.val)) = l.map (fun p => (mk p.1, p.2)) →
    (look a l = none → ∀ i, Instr.findNow d (mk a) es i = some none) ∧ (∀ v, look a l = some v → ∀ i, ∃ j, Instr.findNow d (mk a) es i = some (some (i + j, v)) ∧ (es[j]?).map (·.key) = some (mk a) ∧ ∀ u, (es.modify j fun e => { e with key := mk a, val := u }).map (fun e => (e.key, e.val)) = (upd a u l).map (fun p => (mk p.1, p.2)))
  | [], [], _ => ⟨fun _ _ => rfl, fun v h => by cases h⟩
  | [], _ :: _, h => by simp at h
  | _ :: _, [], h => by simp at h
  | e :: es, (b, v) :: l, h => by
    simp only [List.map_cons, List.cons.injEq, Prod.mk.injEq] at h
    obtain ⟨⟨hk, hv⟩, hr⟩ := h
    obtain ⟨ih1, ih2⟩ := findNow_look L a es l hr
    have hs := L.same a b
    by_cases hab : a = b
    · subst hab
      refine ⟨fun h => by simp [look] at h, fun v' h i => ⟨0, ?_, ?_, fun u => ?_⟩⟩
      · simp only [look, if_true, Option.some.injEq] at h
        subst h
        simp [Instr.findNow, hk, hs, hv]
      · simp [hk]
      · simp [upd, hr]
    · have hs' : Instr.sameNow d (mk a) e.key = some false := by rw [hk, hs, decide_eq_false hab]
      refine ⟨fun h i => ?_, fun v' h i => ?_⟩
      · simp only [look, if_neg hab] at h
        simp only [Instr.findNow, hs']
        exact ih1 h (i + 1)
      · simp only [look, if_neg hab] at h
        obtain ⟨j, h1, h2, h3⟩ := ih2 v' h (i + 1)
        refine ⟨j + 1, ?_, ?_, fun u => ?_⟩
        · simp only [Instr.findNow, hs', h1]
          rw [show i + 1 + j = i + (j + 1) by omega]
        · simpa using h2
        · simp only [upd, if_neg hab, List.modify_succ_cons, List.map_cons, h3 u, hk, hv]
variable {K : TypeId} {d : TypeDesc} {mk : κ → Value}
theorem MapFn.made (mk : κ → Value) (w : World) : MapFn mk (w.alloc (.map #[] 0)) w.heap.size (fun _ => none) := ⟨[], ⟨#[], 0, heap_alloc_new w _, rfl⟩, fun _ => rfl⟩
theorem MapFn.keep {w w' : World} {B : Nat} {m : κ → Option Value} (h : MapFn mk w B m) (hb : w'.heap[B]? = w.heap[B]?) : MapFn mk w' B m := by
  obtain ⟨l, ⟨es, c, h1, h2⟩, h3⟩ := h
  exact ⟨l, ⟨es, c, hb.trans h1, h2⟩, h3⟩
theorem MapFn.lt {w : World} {B : Nat} {m : κ → Option Value} (h : MapFn mk w B m) : B < w.heap.size := by
  obtain ⟨l, ⟨es, c, h1, _⟩, _⟩ := h
  exact (Array.getElem?_eq_some_iff.1 h1).1
theorem MapFn.ext {w : World} {B : Nat} {m m' : κ → Option Value} (h : MapFn mk w B m) (e : ∀ a, m a = m' a) : MapFn mk w B m' := by
  obtain ⟨l, h1, h3⟩ := h
  exact ⟨l, h1, fun a => (h3 a).trans (e a)⟩
theorem MapFn.run_hit (L : KeyLaw P K d mk) {T E : TypeId} (hT : P.underlying T = some (.map K E)) {w : World} {B : Nat} {m : κ → Option Value} (h : MapFn mk w B m) {a : κ} {v : Value} (hv : m a = some v) :
    (Instr.lookup T (.map (some B)) (mk a) false).run P w = .ok v w := by
  obtain ⟨l, ⟨es, c, h1, h2⟩, h3⟩ := h
  obtain ⟨j, hf, _⟩ := (findNow_look L a es.toList l h2).2 v ((h3 a).trans hv) 0
  simp [Instr.lookup, Sem.run_bind, run_underlying hT, Result.andThen, MapKept.run_getObj_map h1, run_checkKey L.und (L.isKey a), run_findKey L.und hf]
theorem MapFn.run_miss (L : KeyLaw P K d mk) {T E : TypeId} (hT : P.underlying T = some (.map K E)) {z : Value} (hz : ∀ w, (zeroValue E).run P w = .ok z w) {w : World} {B : Nat} {m : κ → Option Value} (h : MapFn mk w B m) {a : κ} (hv : m a = none) :
    (Instr.lookup T (.map (some B)) (mk a) false).run P w = .ok z w := by
  obtain ⟨l, ⟨es, c, h1, h2⟩, h3⟩ := h
  have hf := (findNow_look L a es.toList l h2).1 ((h3 a).trans hv) 0
  simp [Instr.lookup, Sem.run_bind, run_underlying hT, Result.andThen, MapKept.run_getObj_map h1, run_checkKey L.und (L.isKey a), run_findKey L.und hf, hz]
theorem MapFn.run_put (L : KeyLaw P K d mk) {T E : TypeId} (hT : P.underlying T = some (.map K E)) {w : World} {B : Nat} {m : κ → Option Value} (h : MapFn mk w B m) (a : κ) (v : Value) :
    ∃ w', (Instr.mapUpdate T (.map (some B)) (mk a) v).run P w = .ok () w' ∧ MapFn mk w' B (fun b => if b = a then some v else m b) ∧ w.grownBy w' (some B) ∧ w'.heap.size = w.heap.size := by
  obtain ⟨l, ⟨es, c, h1, h2⟩, h3⟩ := h
  have hlt : B < w.heap.size := (Array.getElem?_eq_some_iff.1 h1).1
  have hg : ∀ o : Obj, w.grownBy { w with heap := w.heap.setIfInBounds B o } (some B) := fun o => ⟨rfl, rfl, rfl, by simp, fun k _ hk => by
    simp only [Array.getElem?_setIfInBounds]
    rw [if_neg (fun e => hk (by rw [e]))]⟩
  cases hl : look a l with
  | none =>
    have hf := (findNow_look L a es.toList l h2).1 hl 0
    refine ⟨{ w with heap := w.heap.setIfInBounds B (.map (es.push ⟨mk a, v, c⟩) (c + 1)) }, by simp [Instr.mapUpdate, Sem.run_bind, run_underlying hT, Result.andThen, MapKept.run_getObj_map h1, run_checkKey L.und (L.isKey a), run_findKey L.und hf, MapKept.run_setObj_map _ h1], ⟨l ++ [(a, v)], ⟨es.push ⟨mk a, v, c⟩, c + 1, by simp [hlt], by simp [h2]⟩, fun b => by rw [look_append b l a v hl, h3]⟩, hg _, by simp⟩
  | some u =>
    obtain ⟨j, hf, hk, hm⟩ := (findNow_look L a es.toList l h2).2 u hl 0
    rw [Nat.zero_add] at hf
    have hk' : ((es[j]?).map (·.key)).getD (mk a) = mk a := by
      rw [Array.getElem?_toList] at hk
      rw [hk]; rfl
    refine ⟨{ w with heap := w.heap.setIfInBounds B (.map (es.modify j fun e => { e with key := mk a, val := v }) c) }, by simp [Instr.mapUpdate, Sem.run_bind, run_underlying hT, Result.andThen, MapKept.run_getObj_map h1, run_checkKey L.und (L.isKey a), run_findKey L.und hf, hk', Instr.keyThatStays, L.bits, MapKept.run_setObj_map _ h1], ⟨upd a v l, ⟨es.modify j fun e => { e with key := mk a, val := v }, c, by simp [hlt], by rw [Array.toList_modify]; exact hm v⟩, fun b => by rw [look_upd b l a v (by rw [hl]; simp), h3]⟩, hg _, by simp⟩
end
/-- A store into the map, at the operation, for the walk. -/
theorem wpList_put {κ : Type} [DecidableEq κ] {P : Program} {K : TypeId} {d : TypeDesc} {mk : κ → Value} (L : KeyLaw P K d mk) {T E : TypeId} (hT : P.underlying T = some (.map K E))
    {w : World} {ops : Array Oper} {rest : List Oper} {o : Oper} {a : Act} {Q : Exit → Act → World → Prop} (hg : o.guard = none) (m x v : Operand) (hop : o.op = Op.insert T m x v ∨ o.op = Op.mapUpdate T m x v) (hd : o.dst = none)
    (B : Nat) (f : κ → Option Value) (key : κ) (hm : a.eval m = .map (some B)) (hx : a.eval x = mk key) (h : MapFn mk w B f) (val : Value) (hv : a.eval v = val)
    (hK : ∀ w', MapFn mk w' B (fun b => if b = key then some val else f b) → w.grownBy w' (some B) → w'.heap.size = w.heap.size → wpList P ops Q rest a w') : wpList P ops Q (o :: rest) a w := by
  refine wpList_plain hg fun K' hK' => ?_
  obtain ⟨w', hrun, r1, r2, r3⟩ := h.run_put L hT key val
  unfold Oper.wp
  rcases hop with hop | hop <;> simp [execOp, hop, hm, hx, hv, hrun, Result.andThen]
  all_goals (refine hK' _ _ ?_; rw [hd]; exact hK w' r1 r2 r3)
/-- .. and what else the call has laid is below. -/
theorem wpList_putB {κ : Type} [DecidableEq κ] {P : Program} {K : TypeId} {d : TypeDesc} {mk : κ → Value} (L : KeyLaw P K d mk) {T E : TypeId} (hT : P.underlying T = some (.map K E))
    {w : World} {ops : Array Oper} {rest : List Oper} {o : Oper} {a : Act} {Q : Exit → Act → World → Prop} (hg : o.guard = none) (m x v : Operand) (hop : o.op = Op.insert T m x v ∨ o.op = Op.mapUpdate T m x v) (hd : o.dst = none)
    (B : Nat) (f : κ → Option Value) (key : κ) (hm : a.eval m = .map (some B)) (hx : a.eval x = mk key) (h : MapFn mk w B f) (val : Value) (hv : a.eval v = val) (B0 : Nat) (w0 : World) (hB : B0 ≤ B) (hb : Below B0 w0 w)
    (hK : ∀ w', MapFn mk w' B (fun b => if b = key then some val else f b) → Below B0 w0 w' → wpList P ops Q rest a w') : wpList P ops Q (o :: rest) a w :=
  wpList_put L hT hg m x v hop hd B f key hm hx h val hv fun w' h1 h2 _ => hK w' h1 (hb.grown h2 (Nat.le_trans hB (Nat.le_of_lt h.lt)) (fun k hk => by cases hk; exact hB))
/-- A lookup in the map, at the operation. -/
theorem wpList_look {κ : Type} [DecidableEq κ] {P : Program} {K : TypeId} {d : TypeDesc} {mk : κ → Value} (L : KeyLaw P K d mk) {T E : TypeId} (hT : P.underlying T = some (.map K E)) {z : Value} (hz : ∀ w, (zeroValue E).run P w = .ok z w)
    {w : World} {ops : Array Oper} {rest : List Oper} {o : Oper} {a : Act} {Q : Exit → Act → World → Prop} (hg : o.guard = none) (m x : Operand) (hop : o.op = Op.lookup T m x false)
    (B : Nat) (f : κ → Option Value) (key : κ) (hm : a.eval m = .map (some B)) (hx : a.eval x = mk key) (h : MapFn mk w B f) (val : Value) (hv : (f key).getD z = val)
    (hK : wpList P ops Q rest (a.put o.dst val) w) : wpList P ops Q (o :: rest) a w := by
  refine wpList_plain hg fun K' hK' => ?_
  have hrun : (Instr.lookup T (.map (some B)) (mk key) false).run P w = .ok val w := by
    cases hf : f key with
    | none => rw [hf] at hv; rw [← hv]; exact h.run_miss L hT hz hf
    | some u => rw [hf] at hv; rw [← hv]; exact h.run_hit L hT hf
  unfold Oper.wp
  simp [execOp, hop, hm, hx, hrun, Result.andThen]
  exact hK' _ _ hK
theorem keyLaw_int {P : Program} {K : TypeId} {k : IntKind} (h : P.underlying K = some (.int k)) : KeyLaw P K (.int k) (fun n : Int => Value.int k n) where
  und := h
  same a b := by
    simp only [Instr.sameNow, if_true, Option.some.injEq]
    rw [Bool.eq_iff_iff]
    simp
  isKey _ := rfl
  bits a := by simp [Instr.sameBits]
theorem bytes_beq (a b : ByteArray) : (a == b) = decide (a = b) := by
  obtain ⟨r, hr, hiff⟩ := sameNow_of_keys (d := .string) (a := .string a) (b := .string b) trivial trivial
  have e : (a == b) = r := by simpa [Instr.sameNow] using hr
  rw [e, Bool.eq_iff_iff, hiff]
  simp
theorem keyLaw_string {P : Program} {K : TypeId} (h : P.underlying K = some .string) : KeyLaw P K .string (fun s : ByteArray => Value.string s) where
  und := h
  same a b := by simp only [Instr.sameNow, bytes_beq]
  isKey _ := trivial
  bits a := by simp [Instr.sameBits, bytes_beq]
end Go.Proofs.Ytiogpainajokkaa

namespace Go.Proofs.Ytiogpainajokkaa
open Go.RowKit
inductive VSpec
  | val (v : Value)
  | clo (g : Nat) (n : Int)
def IsClo (w : World) (g : Nat) (n : Int) (v : Value) : Prop := ∃ B, v = .func (.func g) #[] #[.pointer (some ⟨B, 0, none⟩)] ∧ w.cell? ⟨B, 0, none⟩ = some (.int .i64 n)
def IsV (w : World) : VSpec → Value → Prop
  | .val v0, v => v = v0
  | .clo g n, v => IsClo w g n v
theorem IsV.move {w w' : World} {s : VSpec} {v : Value} (h : IsV w s v) (hm : ∀ a u, w.cell? a = some u → w'.cell? a = some u) : IsV w' s v := by
  cases s with
  | val v0 => exact h
  | clo g n =>
    obtain ⟨B, h1, h2⟩ := h
    exact ⟨B, h1, hm _ _ h2⟩
abbrev mkU8 : Int → Value := fun n => .int .u8 n
structure LitSt (F : List (Nat × Nat × VSpec)) (G : List (Nat × Int × VSpec)) (H : List (Nat × Nat)) (m0 m1 : Nat) (fix : List (Nat × Value)) (B0 : Nat) (w0 : World) (n : Nat) (b : Nat → Bool) (a : Act) (w : World) : Prop where
  defers : a.defers = []
  size : a.tmps.size = n
  fixed : ∀ x ∈ fix, a.eval (.tmp x.1) = x.2
  bel : Below B0 w0 w
  f : ∀ x ∈ F, b x.1 = true → IsV w x.2.2 (a.eval (.tmp x.2.1))
  g : b m0 = true → ∃ M fn, a.eval (.tmp m1) = .map (some M) ∧ B0 ≤ M ∧ MapFn mkU8 w M fn ∧ ∀ x ∈ G, b x.1 = true → ∃ v, fn x.2.1 = some v ∧ IsV w x.2.2 v
  h : ∀ x ∈ H, b x.1 = true → a.eval (.tmp x.2) = a.eval (.tmp m1)
  cg : ∀ x ∈ G, b x.1 = true → b m0 = true
  ch : ∀ x ∈ H, b x.1 = true → b m0 = true
theorem eval_put_ne {a : Act} {d t : Nat} {v : Value} (h : t ≠ d) : (a.put (some d) v).eval (.tmp t) = a.eval (.tmp t) := by
  simp [Act.put, Act.eval, Array.getD_eq_getD_getElem?, Ne.symm h]
theorem eval_put_self {a : Act} {d : Nat} {v : Value} (h : d < a.tmps.size) : (a.put (some d) v).eval (.tmp d) = v := by
  simp [Act.put, Act.eval, Array.getD_eq_getD_getElem?, h]
section
variable {F : List (Nat × Nat × VSpec)} {G : List (Nat × Int × VSpec)} {H : List (Nat × Nat)} {m0 m1 : Nat} {fix : List (Nat × Value)} {B0 : Nat} {w0 : World} {n : Nat} {b : Nat → Bool} {a : Act} {w : World}
theorem ub_true {b : Nat → Bool} {i j : Nat} (h : ub b i j = true) : j = i ∨ b j = true := by
  by_cases e : j = i
  · exact .inl e
  · rw [ub_ne e] at h; exact .inr h
theorem ub_of {b : Nat → Bool} {i j : Nat} (h : b j = true) : ub b i j = true := by
  by_cases e : j = i
  · subst e; exact ub_self _ _
  · rw [ub_ne e]; exact h
/-- A value that is no part of the map is put into its slot; memory may have been made. -/
theorem LitSt.put (h : LitSt F G H m0 m1 fix B0 w0 n b a w) (i d : Nat) (v : Value) {w' : World} (hw : Below w.heap.size w w') (hB : B0 ≤ w.heap.size) (hd : d < n)
    (hF : ∀ x ∈ F, x.1 = i → x.2.1 = d ∧ IsV w' x.2.2 v) (hFd : ∀ x ∈ F, x.1 ≠ i → x.2.1 ≠ d) (hG : ∀ x ∈ G, x.1 ≠ i) (hH : ∀ x ∈ H, x.1 ≠ i ∧ x.2 ≠ d) (hm : m0 ≠ i) (hm1 : m1 ≠ d) (hfix : ∀ x ∈ fix, x.1 ≠ d) :
    LitSt F G H m0 m1 fix B0 w0 n (ub b i) (a.put (some d) v) w' where
  defers := h.defers
  size := by simpa [Act.put] using h.size
  fixed x hx := by rw [eval_put_ne (hfix x hx)]; exact h.fixed x hx
  bel := h.bel.trans (hw.mono hB)
  f x hx hb := by
    by_cases e : x.1 = i
    · obtain ⟨h1, h2⟩ := hF x hx e
      rw [h1, eval_put_self (by rw [h.size]; exact hd)]
      exact h2
    · rw [ub_ne e] at hb
      rw [eval_put_ne (hFd x hx e)]
      exact (h.f x hx hb).move (cell_below hw)
  g hb := by
    rw [ub_ne hm] at hb
    obtain ⟨M, fn, h1, h2, h3, h4⟩ := h.g hb
    refine ⟨M, fn, by rw [eval_put_ne hm1]; exact h1, h2, h3.keep (hw.block M h3.lt), fun x hx hbx => ?_⟩
    rw [ub_ne (hG x hx)] at hbx
    obtain ⟨u, h5, h6⟩ := h4 x hx hbx
    exact ⟨u, h5, h6.move (cell_below hw)⟩
  h x hx hb := by
    rw [ub_ne (hH x hx).1] at hb
    rw [eval_put_ne (hH x hx).2, eval_put_ne hm1]
    exact h.h x hx hb
  cg x hx hb := by rw [ub_ne (hG x hx)] at hb; rw [ub_ne hm]; exact h.cg x hx hb
  ch x hx hb := by rw [ub_ne (hH x hx).1] at hb; rw [ub_ne hm]; exact h.ch x hx hb
/-- The map is made. -/
theorem LitSt.made (h : LitSt F G H m0 m1 fix B0 w0 n b a w) (hb : b m0 = false) (hB : B0 ≤ w.heap.size) (hd : m1 < n)
    (hF : ∀ x ∈ F, x.1 ≠ m0 ∧ x.2.1 ≠ m1) (hG : ∀ x ∈ G, x.1 ≠ m0) (hH : ∀ x ∈ H, x.1 ≠ m0) (hfix : ∀ x ∈ fix, x.1 ≠ m1) :
    LitSt F G H m0 m1 fix B0 w0 n (ub b m0) (a.put (some m1) (.map (some w.heap.size))) (w.alloc (.map #[] 0)) where
  defers := h.defers
  size := by simpa [Act.put] using h.size
  fixed x hx := by rw [eval_put_ne (hfix x hx)]; exact h.fixed x hx
  bel := h.bel.alloc hB _
  f x hx hbx := by
    rw [ub_ne (hF x hx).1] at hbx
    rw [eval_put_ne (hF x hx).2]
    exact (h.f x hx hbx).move (cell_below ((Below.refl _ _).alloc (Nat.le_refl _) _))
  g _ := ⟨w.heap.size, fun _ => none, eval_put_self (by rw [h.size]; exact hd), hB, MapFn.made _ _, fun x hx hbx => by
    rw [ub_ne (hG x hx)] at hbx
    have := h.cg x hx hbx
    rw [hb] at this; cases this⟩
  h x hx hbx := by
    rw [ub_ne (hH x hx)] at hbx
    have := h.ch x hx hbx
    rw [hb] at this; cases this
  cg x hx hbx := ub_self _ _
  ch x hx hbx := ub_self _ _
/-- An element is put into the map. -/
theorem LitSt.ins (h : LitSt F G H m0 m1 fix B0 w0 n b a w) (i : Nat) (key : Int) (v : Value) {w' : World} {M : Nat} {fn : Int → Option Value} (hM : a.eval (.tmp m1) = .map (some M)) (hMB : B0 ≤ M) (hfn : MapFn mkU8 w M fn)
    (hall : ∀ x ∈ G, b x.1 = true → ∃ v, fn x.2.1 = some v ∧ IsV w x.2.2 v) (hbm : b m0 = true)
    (h1 : MapFn mkU8 w' M (fun c => if c = key then some v else fn c)) (hg : w.grownBy w' (some M))
    (hF : ∀ x ∈ F, x.1 ≠ i) (hG : ∀ x ∈ G, x.1 = i → x.2.1 = key ∧ IsV w x.2.2 v) (hGk : ∀ x ∈ G, x.1 ≠ i → x.2.1 ≠ key) (hH : ∀ x ∈ H, x.1 ≠ i) : LitSt F G H m0 m1 fix B0 w0 n (ub b i) a w' := by
  have hmv : ∀ ad u, w.cell? ad = some u → w'.cell? ad = some u := fun ad u hc => by
    refine hg.cell hc (fun e => ?_)
    obtain ⟨l, ⟨es, c, hh, _⟩, _⟩ := hfn
    have e' : ad.block = M := by injection e
    simp [World.cell?, e', hh] at hc
  exact {
    defers := h.defers
    size := h.size
    fixed := h.fixed
    bel := h.bel.grown hg (Nat.le_trans hMB (Nat.le_of_lt hfn.lt)) (fun k hk => by cases hk; exact hMB)
    f := fun x hx hb => by
      rw [ub_ne (hF x hx)] at hb
      exact (h.f x hx hb).move hmv
    g := fun _ => ⟨M, _, hM, hMB, h1, fun x hx hb => by
      by_cases e : x.1 = i
      · obtain ⟨h5, h6⟩ := hG x hx e
        exact ⟨v, by rw [h5, if_pos rfl], h6.move hmv⟩
      · rw [ub_ne e] at hb
        obtain ⟨u, h5, h6⟩ := hall x hx hb
        exact ⟨u, by rw [if_neg (hGk x hx e)]; exact h5, h6.move hmv⟩⟩
    h := fun x hx hb => by rw [ub_ne (hH x hx)] at hb; exact h.h x hx hb
    cg := fun x hx hb => ub_of hbm
    ch := fun x hx hb => ub_of hbm }
/-- The map's value is copied. -/
theorem LitSt.mov (h : LitSt F G H m0 m1 fix B0 w0 n b a w) (i d : Nat) (hbm : b m0 = true) (hd : d < n) (hm1 : m1 ≠ d)
    (hF : ∀ x ∈ F, x.1 ≠ i ∧ x.2.1 ≠ d) (hG : ∀ x ∈ G, x.1 ≠ i) (hH : ∀ x ∈ H, x.1 = i → x.2 = d) (hHd : ∀ x ∈ H, x.1 ≠ i → x.2 ≠ d) (hfix : ∀ x ∈ fix, x.1 ≠ d) :
    LitSt F G H m0 m1 fix B0 w0 n (ub b i) (a.put (some d) (a.eval (.tmp m1))) w where
  defers := h.defers
  size := by simpa [Act.put] using h.size
  fixed x hx := by rw [eval_put_ne (hfix x hx)]; exact h.fixed x hx
  bel := h.bel
  f x hx hb := by
    rw [ub_ne (hF x hx).1] at hb
    rw [eval_put_ne (hF x hx).2]
    exact h.f x hx hb
  g hb := by
    obtain ⟨M, fn, h1, h2, h3, h4⟩ := h.g hbm
    refine ⟨M, fn, by rw [eval_put_ne hm1]; exact h1, h2, h3, fun x hx hbx => ?_⟩
    rw [ub_ne (hG x hx)] at hbx
    exact h4 x hx hbx
  h x hx hb := by
    rw [eval_put_ne hm1]
    by_cases e : x.1 = i
    · rw [hH x hx e, eval_put_self (by rw [h.size]; exact hd)]
    · rw [ub_ne e] at hb
      rw [eval_put_ne (hHd x hx e)]
      exact h.h x hx hb
  cg x hx hb := ub_of hbm
  ch x hx hb := ub_of hbm
end
end Go.Proofs.Ytiogpainajokkaa

namespace Go.Proofs.Ytiogpainajokkaa
open Go.RowKit
/-! ### shape -/
def shapeStr (o : Int) : List UInt8 :=
  if o = 1 then [116, 45, 110] else if o = 2 then [45, 118, 45] else if o = 3 then [45, 115, 45] else if o = 4 then [119, 45, 45] else if o = 5 then [119, 45, 45] else if o = 6 then [119, 45, 45] else if o = 7 then [119, 45, 45] else if o = 8 then [119, 45, 45]
  else if o = 14 then [119, 45, 45] else if o = 9 then [116, 45, 45] else if o = 10 then [116, 45, 45] else if o = 11 then [116, 45, 45] else if o = 12 then [116, 45, 45] else if o = 13 then [116, 45, 45] else if o = 15 then [116, 116, 45]
  else if o = 16 then [45, 45, 45] else if o = 17 then [45, 45, 45] else if o = 22 then [45, 45, 45] else if o = 18 then [45, 106, 45] else if o = 19 then [45, 106, 45] else if o = 20 then [45, 98, 45] else if o = 21 then [45, 98, 112] else []
theorem zeroShape (w : World) : (zeroValue 240).run Try.prog w = .ok (.agg #[.string ⟨#[]⟩]) w := by kernel_rfl
theorem shape_is (o : Int) : ((if o = 21 then some (.agg #[.string ⟨#[45, 98, 112]⟩]) else (if o = 20 then some (.agg #[.string ⟨#[45, 98, 45]⟩]) else (if o = 19 then some (.agg #[.string ⟨#[45, 106, 45]⟩]) else (if o = 18 then some (.agg #[.string ⟨#[45, 106, 45]⟩]) else (if o = 22 then some (.agg #[.string ⟨#[45, 45, 45]⟩]) else (if o = 17 then some (.agg #[.string ⟨#[45, 45, 45]⟩]) else (if o = 16 then some (.agg #[.string ⟨#[45, 45, 45]⟩]) else (if o = 15 then some (.agg #[.string ⟨#[116, 116, 45]⟩]) else (if o = 13 then some (.agg #[.string ⟨#[116, 45, 45]⟩]) else (if o = 12 then some (.agg #[.string ⟨#[116, 45, 45]⟩]) else (if o = 11 then some (.agg #[.string ⟨#[116, 45, 45]⟩]) else (if o = 10 then some (.agg #[.string ⟨#[116, 45, 45]⟩]) else (if o = 9 then some (.agg #[.string ⟨#[116, 45, 45]⟩]) else (if o = 14 then some (.agg #[.string ⟨#[119, 45, 45]⟩]) else (if o = 8 then some (.agg #[.string ⟨#[119, 45, 45]⟩]) else (if o = 7 then some (.agg #[.string ⟨#[119, 45, 45]⟩]) else (if o = 6 then some (.agg #[.string ⟨#[119, 45, 45]⟩]) else (if o = 5 then some (.agg #[.string ⟨#[119, 45, 45]⟩]) else (if o = 4 then some (.agg #[.string ⟨#[119, 45, 45]⟩]) else (if o = 3 then some (.agg #[.string ⟨#[45, 115, 45]⟩]) else (if o = 2 then some (.agg #[.string ⟨#[45, 118, 45]⟩]) else (if o = 1 then some (.agg #[.string ⟨#[116, 45, 110]⟩]) else none)))))))))))))))))))))) : Option Value).getD (.agg #[.string ⟨#[]⟩]) = .agg #[.string ⟨(shapeStr o).toArray⟩] := by
  by_cases h1 : o = 1
  · subst h1; rfl
  by_cases h2 : o = 2
  · subst h2; rfl
  by_cases h3 : o = 3
  · subst h3; rfl
  by_cases h4 : o = 4
  · subst h4; rfl
  by_cases h5 : o = 5
  · subst h5; rfl
  by_cases h6 : o = 6
  · subst h6; rfl
  by_cases h7 : o = 7
  · subst h7; rfl
  by_cases h8 : o = 8
  · subst h8; rfl
  by_cases h9 : o = 9
  · subst h9; rfl
  by_cases h10 : o = 10
  · subst h10; rfl
  by_cases h11 : o = 11
  · subst h11; rfl
  by_cases h12 : o = 12
  · subst h12; rfl
  by_cases h13 : o = 13
  · subst h13; rfl
  by_cases h14 : o = 14
  · subst h14; rfl
  by_cases h15 : o = 15
  · subst h15; rfl
  by_cases h16 : o = 16
  · subst h16; rfl
  by_cases h17 : o = 17
  · subst h17; rfl
  by_cases h18 : o = 18
  · subst h18; rfl
  by_cases h19 : o = 19
  · subst h19; rfl
  by_cases h20 : o = 20
  · subst h20; rfl
  by_cases h21 : o = 21
  · subst h21; rfl
  by_cases h22 : o = 22
  · subst h22; rfl
  simp [shapeStr, h1, h2, h3, h4, h5, h6, h7, h8, h9, h10, h11, h12, h13, h14, h15, h16, h17, h18, h19, h20, h21, h22]
set_option maxRecDepth 100000 in
theorem shape_any (o : Int) (w : World) : Calls Try.prog 151 #[.int .u8 o] w fun e w' => e = .returned (.string ⟨(shapeStr o).toArray⟩) ∧ Below w.heap.size w w' := by
  have hmm := @run_makeMap Try.prog
  have hfd : ∀ s w, (Instr.field 240 (.agg #[.string s]) 0).run Try.prog w = .ok (.string s) w := fun _ _ => by kernel_rfl
  have hT : Try.prog.underlying 241 = some (.map 47 240) := Try.underlying241
  have L : KeyLaw Try.prog 47 (.int .u8) mkU8 := keyLaw_int Try.underlying47
  go_enter Try.func151, Try.ntmps151
  go_wp2_with (first | (refine wpList_putB L hT rfl _ _ _ (.inl rfl) rfl w.heap.size _ _ rfl rfl (by first | exact MapFn.made _ _ | assumption) _ rfl w.heap.size w (Nat.le_refl _) (by first | exact (Below.refl _ w).alloc (Nat.le_refl _) _ | assumption) ?_; intro w' hm hb) | (at_lookup; (refine wpList_look L hT (zeroShape) rfl _ _ rfl w.heap.size _ _ rfl rfl (by assumption) (.agg #[.string ⟨(shapeStr o).toArray⟩]) ?hv ?_); case hv => exact shape_is o))
  go_ret
  exact ⟨rfl, by assumption⟩
end Go.Proofs.Ytiogpainajokkaa

namespace Go.Proofs.Ytiogpainajokkaa
open Go.RowKit
structure GVar where
  name : ByteArray
  cls : Int
  ty : Int
  first : Int
structure GIns where
  op : Int
  t : Int
  a : Int
  n : Int
structure GCode where
  name : ByteArray
  vars : List GVar
  blocks : List Int
  ins : List GIns
def encVar (v : GVar) : List Value := [.string v.name, .int .u8 v.cls, .int .u8 v.ty, .int .i64 v.first]
def encIns (i : GIns) : List Value := [.int .u8 i.op, .int .u8 i.t, .int .i64 i.a, .int .i64 i.n]
theorem encVar_len (v : GVar) : (encVar v).length = 4 := rfl
theorem encIns_len (i : GIns) : (encIns i).length = 4 := rfl
/-- A program's slices read as they should. -/
structure CodeRd (w : World) (c : GCode) (vs bs is : Value) : Prop where
  vars : Rd encVar 4 w vs c.vars
  blocks : Rd oneU8 1 w bs c.blocks
  ins : Rd encIns 4 w is c.ins
theorem CodeRd.below {w w' : World} {c : GCode} {vs bs is : Value} (h : CodeRd w c vs bs is) (hb : Below w.heap.size w w') : CodeRd w' c vs bs is := ⟨h.vars.below hb, h.blocks.below hb, h.ins.below hb⟩
structure GIns.Wf (i : GIns) : Prop where
  op : 0 ≤ i.op ∧ i.op ≤ 255
  t : 0 ≤ i.t ∧ i.t ≤ 255
  a : -9223372036854775808 ≤ i.a ∧ i.a ≤ 9223372036854775807
  n : -9223372036854775808 ≤ i.n ∧ i.n ≤ 9223372036854775807
structure GVar.Wf (v : GVar) : Prop where
  cls : 0 ≤ v.cls ∧ v.cls ≤ 255
  ty : 0 ≤ v.ty ∧ v.ty ≤ 255
  first : -9223372036854775808 ≤ v.first ∧ v.first ≤ 9223372036854775807
structure GCode.Wf (c : GCode) : Prop where
  vars : ∀ v ∈ c.vars, v.Wf
  blocks : ∀ b ∈ c.blocks, 0 ≤ b ∧ b ≤ 255
  ins : ∀ i ∈ c.ins, i.Wf
end Go.Proofs.Ytiogpainajokkaa

