/- Words for the contracts of this seat: slices that are read, rows of the call's own, maps that a call makes, regions that draw their order. Nothing of the program is named here. -/
import Derived.WalkKit
import Derived.WalkSpells
import Derived.WalkLawsBesides
import Derived.OwnWalk
import Derived.Laws.OwnMore
import Derived.Below
import Derived.KernelRfl
import Derived.RowKit3
import Derived.Deep.DeepMust
import Derived.Test.YtjanofopmmndoaaProg
import Derived.Outline
import Derived.BigQuiet
import Derived.Laws.ResultCell
namespace Go.Proofs.Ytjanofopmmndoaa
open Go.RowKit
/-- A fact that the walk's simp does not look into. -/
structure Fact (p : Prop) : Prop where mk :: (out : p)

theorem ret_bool {a b : Bool} (h : a = b) : Ending.returned (.bool a) = Ending.returned (.bool b) := by rw [h]
theorem ret_int {k : IntKind} {a b : Int} (h : a = b) : Ending.returned (.int k a) = Ending.returned (.int k b) := by rw [h]

theorem cell_new (w : World) (v : Value) (T : TypeId) : (w.alloc (.cells #[v] T)).cell? ⟨w.heap.size, 0, none⟩ = some v := by
  rw [cell_of_row _ _ 0 _ _ (0, 0) (heap_alloc_new w _)]; rfl

/-! ### slices that are read -/
def Rd {α : Type} (enc : α → List Value) (k : Nat) (w : World) (v : Value) (xs : List α) : Prop :=
  xs.length ≤ 9223372036854775807 ∧ ∃ A c, v = .slice A xs.length c ∧ xs.length ≤ c ∧
    ((A = none → c = 0) ∧ (0 < xs.length → ∃ b off, A = some ⟨b, off, none⟩ ∧ ∀ j, (h : j < xs.length) → ∀ i u, (enc xs[j])[i]? = some u → w.cell? ⟨b, off + j * k + i, none⟩ = some u))
theorem Rd.move {α : Type} {enc : α → List Value} {k : Nat} {w w' : World} {v : Value} {xs : List α} (h : Rd enc k w v xs) (hm : ∀ a u, w.cell? a = some u → w'.cell? a = some u) : Rd enc k w' v xs := by
  obtain ⟨h0, A, c, h1, h2, h4, h3⟩ := h
  refine ⟨h0, A, c, h1, h2, h4, fun hp => ?_⟩
  obtain ⟨b, off, e, hc⟩ := h3 hp
  exact ⟨b, off, e, fun j hj i u hu => hm _ _ (hc j hj i u hu)⟩
theorem cell_below {w w1 : World} (h : Below w.heap.size w w1) (a : Addr) (v : Value) (hc : w.cell? a = some v) : w1.cell? a = some v := (h.cell (World.block_lt_of_cell? w a hc)).trans hc
theorem Rd.below {α : Type} {enc : α → List Value} {k : Nat} {w w' : World} {v : Value} {xs : List α} (h : Rd enc k w v xs) (hb : Below w.heap.size w w') : Rd enc k w' v xs := h.move (cell_below hb)

/-- A load of the cells of 'cs', in the form at which the walk stands still. -/
theorem load_list (P : Program) (W : World) (a : Addr) (cs : List Value) (k : Nat) (hk : cs.length = k) (h : ∀ j v, cs[j]? = some v → W.cell? (a.add j) = some v) : Sem.run P (loadCellsFrom a 0 k #[]) W = .ok cs.toArray W := by
  have := run_loadCells_list (P := P) (w := W) a cs h
  rw [hk] at this
  simpa [loadCells] using this

/-! ### rows of the call's own -/
def Own {α : Type} (E : TypeId) (k : Nat) (enc : α → List Value) (w : World) (base : Nat) (v : Value) (xs : List α) : Prop := w.ownsRow base E k v xs.length (xs.flatMap enc)
theorem Own.nil {α : Type} (E : TypeId) (k : Nat) (enc : α → List Value) (w : World) (base : Nat) : Own E k enc w base (.slice none 0 0) [] := World.ownsRow_nil _ _ _ _
theorem grown_below {w w1 : World} (h : Below w.heap.size w w1) (row : Option Nat) : w.grownBy w1 row := ⟨h.os, h.tape, h.output, h.size, fun i hi _ => h.block i hi⟩
theorem Own.below {α : Type} {E : TypeId} {k : Nat} {enc : α → List Value} {w w' : World} {base : Nat} {v : Value} {xs : List α} (h : Own E k enc w base v xs) (hb : Below w.heap.size w w') : Own E k enc w' base v xs :=
  World.ownsRow.kept h (grown_below hb none) (by cases v.ownBlock <;> simp)
theorem Own.lower {α : Type} {E : TypeId} {k : Nat} {enc : α → List Value} {w : World} {base base' : Nat} {v : Value} {xs : List α} (h : Own E k enc w base v xs) (hb : base' ≤ base) : Own E k enc w base' v xs := by
  obtain ⟨h1, h2⟩ := h
  refine ⟨h1, ?_⟩
  rcases h2 with h2 | ⟨g, cap, cur, hv, hg, r⟩
  · exact .inl h2
  · exact .inr ⟨g, cap, cur, hv, Nat.le_trans hb hg, r⟩
theorem flatMap_at {α : Type} {enc : α → List Value} {k : Nat} (hk : ∀ x, (enc x).length = k) (xs : List α) (j : Nat) (h : j < xs.length) (i : Nat) (u : Value) (hu : (enc xs[j])[i]? = some u) : (xs.flatMap enc)[j * k + i]? = some u := by
  induction xs generalizing j with
  | nil => exact absurd h (by simp)
  | cons x l ih =>
    have hi : i < (enc ((x :: l)[j])).length := (List.getElem?_eq_some_iff.1 hu).1
    rw [hk] at hi
    cases j with
    | zero =>
      rw [List.flatMap_cons, List.getElem?_append_left (by rw [hk]; omega)]
      simpa using hu
    | succ j =>
      rw [List.flatMap_cons, List.getElem?_append_right (by rw [hk, Nat.add_mul]; omega), hk]
      have := ih j (by simpa using h) (by simpa using hu)
      rw [show (j + 1) * k + i - k = j * k + i by rw [Nat.add_mul]; omega]
      exact this
theorem flatMap_len {α : Type} {enc : α → List Value} {k : Nat} (hk : ∀ x, (enc x).length = k) (xs : List α) : (xs.flatMap enc).length = xs.length * k := by
  induction xs with
  | nil => simp
  | cons x l ih => rw [List.flatMap_cons, List.length_append, hk, ih, List.length_cons, Nat.add_mul]; omega
theorem add_plain (g j : Nat) : (⟨g, 0, none⟩ : Addr).add j = ⟨g, j, none⟩ := by unfold Addr.add; split <;> simp_all
theorem Own.rd {α : Type} {E : TypeId} {k : Nat} {enc : α → List Value} (hk : ∀ x, (enc x).length = k) {w : World} {base : Nat} {v : Value} {xs : List α} (h : Own E k enc w base v xs) : Rd enc k w v xs := by
  have hc0 := fun g => World.ownsRow.cells (g := g) h
  rcases h.2 with ⟨rfl, h0⟩ | ⟨g, cap, cur, rfl, hg, hh, hn, hm, _⟩
  · exact ⟨by omega, none, 0, by rw [h0], by omega, fun _ => rfl, fun hp => by omega⟩
  · refine ⟨by simp only [maxLen] at hm; omega, _, cap, rfl, hn, (fun e => by cases e), fun _ => ⟨g, 0, rfl, fun j hj i u hu => ?_⟩⟩
    have := hc0 g rfl (j * k + i) u (flatMap_at hk xs j hj i u hu)
    rw [add_plain] at this
    rw [Nat.zero_add]
    exact this
theorem grown_trans {a b c : World} {row : Option Nat} (h : a.grownBy b row) (k : b.grownBy c row) : a.grownBy c row :=
  ⟨k.os.trans h.os, k.tape.trans h.tape, k.output.trans h.output, Nat.le_trans h.size k.size, fun i hi hr => (k.block i (Nat.lt_of_lt_of_le hi h.size) hr).trans (h.block i hi hr)⟩
/-- One element appended: its cells lie in a block that was just laid. -/
theorem wpList_push {P : Program} {α : Type} {wr : World} {ops : Array Oper} {rest : List Oper} {o : Oper} {a : Act} {Q : Exit → Act → World → Prop} (hgd : o.guard = none) (s x : Operand) (t : TypeId)
    (ho : o.op = .call { callee := .builtin .append, args := #[s, x], argTypes := #[t, t] })
    (base : Nat) (e : TypeId) (i : TypeInfo) (z : Value) (size bytes : Nat) (ht : P.underlying t = some (.slice e)) (hi : P.info? e = some i) (hz : i.zero = some z)
    (hsize : i.size = size) (hby : i.bytes = bytes) (hzs : z.cells.size = size) (hsz : 0 < size) (hb0 : 0 < bytes) (enc : α → List Value)
    (v : Value) (xs : List α) (hs : a.eval s = v) (hown : Own e size enc wr base v xs) (y : α)
    (hx : a.eval x = .slice (some ⟨wr.heap.size, 0, none⟩) 1 1) (hl : (enc y).length = size) (h1 : ∀ u ∈ enc y, u.oneCell' = true)
    (hn : (xs.length + 1) * bytes ≤ 140737488355328) (hb : base ≤ wr.heap.size)
    (h : ∀ v' w', Own e size enc w' base v' (xs ++ [y]) → wr.grownBy w' v.ownBlock → Below base wr w' → wpList P ops Q rest (a.put o.dst v') w') : wpList P ops Q (o :: rest) a (wr.alloc (.cells (enc y).toArray e)) := by
  have hm : xs.length + 1 ≤ maxLen := by
    have := Nat.le_trans (Nat.le_mul_of_pos_right (xs.length + 1) hb0) hn
    simp only [maxLen]; omega
  have hown' : (wr.alloc (.cells (enc y).toArray e)).ownsRow base e size v xs.length (xs.flatMap enc) := World.ownsRow.alloc hown _
  refine wpList_append_own (wr.alloc _) hgd s x t ho base e i z size bytes ht hi hz hsize hby hzs hsz v xs.length (xs.flatMap enc) hs hown' ⟨wr.heap.size, 0, none⟩ 1 1 (enc y) hx (by rw [hl]; omega) ?_ h1 hm hn (by simp; omega) ?_
  · intro j u hu
    rw [add_plain, cell_of_row (wr.alloc (.cells (enc y).toArray e)) wr.heap.size j (enc y).toArray e (0, 0) (heap_alloc_new wr _)]
    simpa using hu
  · intro v' w' ho' hg _
    have hg' : wr.grownBy w' v.ownBlock := grown_trans (World.grownBy_alloc wr _ _) hg
    refine h v' w' ?_ hg' ((Below.refl base wr).grown hg' hb (fun k hk => (World.ownsRow.lt hown k hk).1))
    show w'.ownsRow base e size v' (xs ++ [y]).length ((xs ++ [y]).flatMap enc)
    rw [List.length_append, List.flatMap_append]
    simpa using ho'
def oneU8 (x : Int) : List Value := [.int .u8 x]
theorem oneU8_len (x : Int) : (oneU8 x).length = 1 := rfl

theorem one_block (w : World) (o1 : Obj) : Below w.heap.size w (w.alloc o1) ∧ (w.alloc o1).heap[w.heap.size]? = some o1 ∧ (w.alloc o1).heap.size = w.heap.size + 1 :=
  ⟨(Below.refl _ _).alloc (Nat.le_refl _) _, heap_alloc_new w _, by simp⟩
theorem two_blocks (w : World) (o1 o2 : Obj) : Below w.heap.size w ((w.alloc o1).alloc o2) ∧ ((w.alloc o1).alloc o2).heap[w.heap.size]? = some o1 ∧ ((w.alloc o1).alloc o2).heap[w.heap.size + 1]? = some o2 ∧ ((w.alloc o1).alloc o2).heap.size = w.heap.size + 1 + 1 := by
  have s1 : (w.alloc o1).heap.size = w.heap.size + 1 := by simp
  refine ⟨((Below.refl _ _).alloc (Nat.le_refl _) _).alloc (by omega) _, ?_, ?_, by simp⟩
  · rw [heap_alloc_old _ _ (by omega)]; exact heap_alloc_new w _
  · rw [← s1]; exact heap_alloc_new (w.alloc o1) _
theorem three_blocks (w : World) (o1 o2 o3 : Obj) : ∃ w0, w0 = ((w.alloc o1).alloc o2).alloc o3 ∧ Below w.heap.size w w0 ∧ w0.heap[w.heap.size]? = some o1 ∧ w0.heap[w.heap.size + 1]? = some o2 ∧ w0.heap[w.heap.size + 1 + 1]? = some o3 ∧ w0.heap.size = w.heap.size + 1 + 1 + 1 := by
  obtain ⟨h1, h2, h3, h4⟩ := two_blocks w o1 o2
  refine ⟨_, rfl, h1.alloc (by omega) _, ?_, ?_, ?_, by simp⟩
  · rw [heap_alloc_old _ _ (by omega)]; exact h2
  · rw [heap_alloc_old _ _ (by omega)]; exact h3
  · rw [← h4]; exact heap_alloc_new _ _

/-! ### the first place where a predicate holds -/
def idxFrom (p : Nat → Bool) : Nat → Nat → Int
  | 0, _ => -1
  | f + 1, j => if p j = true then (j : Int) else idxFrom p f (j + 1)
theorem idxFrom_any (p : Nat → Bool) (f : Nat) : ∀ j, (0 ≤ idxFrom p f j ↔ ∃ i, j ≤ i ∧ i < j + f ∧ p i = true) := by
  induction f with
  | zero => intro j; simp only [idxFrom]; constructor
            · intro h; omega
            · rintro ⟨i, h1, h2, _⟩; omega
  | succ f ih =>
    intro j
    simp only [idxFrom]
    by_cases h : p j = true
    · rw [if_pos h]; exact ⟨fun _ => ⟨j, by omega, by omega, h⟩, fun _ => by omega⟩
    · rw [if_neg h, ih]
      constructor
      · rintro ⟨i, h1, h2, h3⟩; exact ⟨i, by omega, by omega, h3⟩
      · rintro ⟨i, h1, h2, h3⟩
        have : i ≠ j := fun e => h (e ▸ h3)
        exact ⟨i, by omega, by omega, h3⟩
theorem rd_nil {α : Type} (enc : α → List Value) (k : Nat) (w : World) : Rd enc k w (.slice none 0 0) [] := ⟨by simp, none, 0, rfl, Nat.le_refl _, fun _ => rfl, fun h => absurd h (by simp)⟩
theorem rd_new {α : Type} (enc : α → List Value) (k : Nat) (hk : ∀ x, (enc x).length = k) (w : World) (xs : List α) (T : TypeId) (h : xs.length ≤ 9223372036854775807) : Rd enc k (w.alloc (.cells (xs.flatMap enc).toArray T)) (.slice (some ⟨w.heap.size, 0, none⟩) xs.length xs.length) xs := by
  refine ⟨h, _, _, rfl, Nat.le_refl _, (fun h => by cases h), fun _ => ⟨w.heap.size, 0, rfl, fun j hj i u hu => ?_⟩⟩
  rw [cell_of_row _ _ _ _ _ (0, 0) (heap_alloc_new w _)]
  have := flatMap_at hk xs j hj i u hu
  simpa using this
theorem Own.slice {α : Type} {E : TypeId} {k : Nat} {enc : α → List Value} {w : World} {base : Nat} {v : Value} {xs : List α} (h : Own E k enc w base v xs) : ∃ A n c, v = .slice A n c := by
  rcases h.2 with ⟨rfl, _⟩ | ⟨g, cap, cur, rfl, _⟩
  · exact ⟨_, _, _, rfl⟩
  · exact ⟨_, _, _, rfl⟩
theorem Own.slice2 {α : Type} {E : TypeId} {k : Nat} {enc : α → List Value} {w : World} {base : Nat} {v : Value} {xs : List α} (h : Own E k enc w base v xs) : ∃ A c, v = .slice A xs.length c := by
  rcases h.2 with ⟨rfl, h0⟩ | ⟨g, cap, cur, rfl, _⟩
  · exact ⟨none, 0, by rw [h0]⟩
  · exact ⟨_, _, rfl⟩
end Go.Proofs.Ytjanofopmmndoaa

namespace Go.Proofs.Ytjanofopmmndoaa
open Go.RowKit
def rangeOf (t : Int) : Int × Int := if t = 1 then (0, 1) else if t = 2 then (-128, 127) else if t = 3 then (-32768, 32767) else if t = 4 then (-2147483648, 2147483647) else if t = 5 then (0, 4294967295) else (0, 0)
theorem range_any (t : Int) (w : World) : Calls Try.prog 25 #[.int .u8 t] w fun e w' => e = .returned (.tuple #[.int .i64 (rangeOf t).1, .int .i64 (rangeOf t).2]) ∧ w = w' := by
  unfold rangeOf
  go_enter Try.func25, Try.ntmps25
  go_wp2
  all_goals go_ret2
  all_goals (refine ⟨?_, rfl⟩; simp_all)
/-! ### types, Pins -/
def typeOf (c : UInt8) : List Int := if c = 98 then [1] else if c = 100 then [4] else if c = 117 then [5] else []
def typesOf (l : List UInt8) : List Int := l.flatMap typeOf
theorem typesOf_snoc (l : List UInt8) (c : UInt8) : typesOf (l ++ [c]) = typesOf l ++ typeOf c := by simp [typesOf]
theorem typesOf_len (l : List UInt8) : (typesOf l).length ≤ l.length := by
  induction l with
  | nil => simp [typesOf]
  | cons c l ih =>
    have : (typeOf c).length ≤ 1 := by
      unfold typeOf
      repeat' split
      all_goals simp
    simp only [typesOf, List.flatMap_cons, List.length_append, List.length_cons] at *
    omega
theorem take_snoc (s : ByteArray) (k : Nat) (h : k < s.size) : s.data.toList.take (k + 1) = s.data.toList.take k ++ [s[k]] := by
  rw [List.take_succ_eq_append_getElem (by simpa using h)]; rfl
theorem byte_ne {c : UInt8} {n : Nat} (h : c ≠ UInt8.ofNat n) (hn : n < 256) : ((c.toNat : Int) == (n : Int)) = false := by
  rw [beq_eq_false_iff_ne]
  intro e
  apply h
  apply UInt8.toNat_inj.1
  have : (UInt8.ofNat n).toNat = n := by simp; omega
  omega
theorem Try.infoType : (Try.prog.info? 59).map (fun i => (i.zero, i.size, i.bytes)) = some (some (.int .u8 0), 1, 1) := by kernel_rfl
set_option maxHeartbeats 1000000 in
set_option maxRecDepth 100000 in
theorem types_any (s : ByteArray) (w : World) (hs : s.size ≤ 140737488351232) : Calls Try.prog 40 #[.string s] w fun e w' => ∃ v, e = .returned v ∧ Own 59 1 oneU8 w' w.heap.size v (typesOf s.data.toList) ∧ Below w.heap.size w w' := by
  obtain ⟨i0, hi, hz0, hz1, hz2⟩ := info_parts Try.infoType
  go_enter Try.func40, Try.ntmps40
  go_wp2
  go_loopw [3, 7] (fun v i wr => ∃ k : Nat, k ≤ s.size ∧ i = .int .i64 k ∧ Fact (Own 59 1 oneU8 wr w.heap.size v (typesOf (s.data.toList.take k))) ∧ Fact (Below w.heap.size w wr)) (fun _ i _ => s.size - (intOf i).toNat)
  case atStart => exact ⟨0, Nat.zero_le _, rfl, ⟨Own.nil _ _ _ _ _⟩, ⟨Below.refl _ _⟩⟩
  case round =>
    obtain ⟨k, hk, rfl, hown, hb⟩ := hrel
    by_cases hlt : k < s.size
    · have hsn := typesOf_snoc (s.data.toList.take k) s[k]
      have hlen := typesOf_len (s.data.toList.take k)
      have hlk : (s.data.toList.take k).length = k := by simp; omega
      rw [hlk] at hlen
      rw [← take_snoc s k hlt] at hsn
      have HS := Fact.mk hsn
      clear hsn hlk
      rcases (show s[k] = 98 ∨ s[k] = 100 ∨ s[k] = 117 ∨ (s[k] ≠ 98 ∧ s[k] ≠ 100 ∧ s[k] ≠ 117) by
        by_cases h1 : s[k] = 98
        · exact .inl h1
        by_cases h2 : s[k] = 100
        · exact .inr (.inl h2)
        by_cases h3 : s[k] = 117
        · exact .inr (.inr (.inl h3))
        exact .inr (.inr (.inr ⟨h1, h2, h3⟩))) with hc | hc | hc | ⟨hc1, hc2, hc3⟩
      · have h0 : ((s[k].toNat : Int) == 98) = true := by rw [hc]; rfl
        have hN : typeOf s[k] = [1] := by rw [hc]; rfl
        rw [hN] at HS
        clear hc hN
        go_wp2_with (at_builtin; refine wpList_push rfl _ _ 56 rfl w.heap.size 59 i0 (.int .u8 0) 1 1 Try.underlying56 hi hz0 hz1 hz2 rfl (by decide) (by decide) oneU8 _ _ rfl hown.out 1 rfl rfl (by simp [oneU8]; rfl) ?c1 hb.out.size ?_; case c1 => omega)
        intro v' w' ho' _ hb'
        go_wp2
        go_roundw
        case rel => exact ⟨k + 1, by omega, by go_num, ⟨by rw [HS.out]; exact ho'⟩, ⟨hb.out.trans hb'⟩⟩
        case measure => simp [intOf]; omega
      · have h0 : ((s[k].toNat : Int) == 98) = false := by rw [hc]; rfl
        have h1 : ((s[k].toNat : Int) == 100) = true := by rw [hc]; rfl
        have hN : typeOf s[k] = [4] := by rw [hc]; rfl
        rw [hN] at HS
        clear hc hN
        go_wp2_with (at_builtin; refine wpList_push rfl _ _ 56 rfl w.heap.size 59 i0 (.int .u8 0) 1 1 Try.underlying56 hi hz0 hz1 hz2 rfl (by decide) (by decide) oneU8 _ _ rfl hown.out 4 rfl rfl (by simp [oneU8]; rfl) ?c1 hb.out.size ?_; case c1 => omega)
        intro v' w' ho' _ hb'
        go_wp2
        go_roundw
        case rel => exact ⟨k + 1, by omega, by go_num, ⟨by rw [HS.out]; exact ho'⟩, ⟨hb.out.trans hb'⟩⟩
        case measure => simp [intOf]; omega
      · have h0 : ((s[k].toNat : Int) == 98) = false := by rw [hc]; rfl
        have h1 : ((s[k].toNat : Int) == 100) = false := by rw [hc]; rfl
        have h2 : ((s[k].toNat : Int) == 117) = true := by rw [hc]; rfl
        have hN : typeOf s[k] = [5] := by rw [hc]; rfl
        rw [hN] at HS
        clear hc hN
        go_wp2_with (at_builtin; refine wpList_push rfl _ _ 56 rfl w.heap.size 59 i0 (.int .u8 0) 1 1 Try.underlying56 hi hz0 hz1 hz2 rfl (by decide) (by decide) oneU8 _ _ rfl hown.out 5 rfl rfl (by simp [oneU8]; rfl) ?c1 hb.out.size ?_; case c1 => omega)
        intro v' w' ho' _ hb'
        go_wp2
        go_roundw
        case rel => exact ⟨k + 1, by omega, by go_num, ⟨by rw [HS.out]; exact ho'⟩, ⟨hb.out.trans hb'⟩⟩
        case measure => simp [intOf]; omega
      · have h0 := byte_ne (n := 98) hc1 (by decide)
        have h1 := byte_ne (n := 100) hc2 (by decide)
        have h2 := byte_ne (n := 117) hc3 (by decide)
        have hN : typeOf s[k] = [] := by simp [typeOf, hc1, hc2, hc3]
        rw [hN, List.append_nil] at HS
        clear hc1 hc2 hc3 hN
        go_wp2
        go_roundw
        case rel => exact ⟨k + 1, by omega, by go_num, ⟨by rw [HS.out]; exact hown.out⟩, hb⟩
        case measure => simp [intOf]; omega
    · go_wp2
      go_ret
      have := hown.out
      rw [List.take_of_length_le (by simp; omega)] at this
      exact ⟨_, rfl, this, hb.out⟩
end Go.Proofs.Ytjanofopmmndoaa

namespace Go.Proofs.Ytjanofopmmndoaa
open Go.RowKit
def pinStr (k : Int) : List UInt8 × List UInt8 :=
  if k = 1 ∨ k = 2 ∨ k = 3 then ([98, 117], [98, 117]) else if k = 4 ∨ k = 5 then ([98, 98, 100], [98, 100]) else if k = 6 then ([98, 98, 98, 98, 100], [98, 98, 100])
  else if k = 7 ∨ k = 8 then ([98], [98]) else if k = 9 ∨ k = 10 then ([98, 98], [98]) else if k = 11 then ([98, 98, 98], [100, 98]) else ([], [])
def pinsIn (k : Int) : List Int := typesOf (pinStr k).1
def pinsOut (k : Int) : List Int := typesOf (pinStr k).2
def PinsPost (k : Int) (w : World) (e : Ending) (w' : World) : Prop := ∃ v1 v2, e = .returned (.tuple #[v1, v2]) ∧ Own 59 1 oneU8 w' w.heap.size v1 (pinsIn k) ∧ Own 59 1 oneU8 w' w.heap.size v2 (pinsOut k) ∧ Below w.heap.size w w'
theorem own_of_eq {E : TypeId} {k : Nat} {enc : Int → List Value} {w : World} {b : Nat} {v : Value} {xs ys : List Int} (h : ys = xs) (ho : Own E k enc w b v xs) : Own E k enc w b v ys := h ▸ ho
theorem pins_any (k : Int) (w : World) : Calls Try.prog 24 #[.int .u8 k] w (PinsPost k w) := by
  go_enter Try.func24, Try.ntmps24
  go_wp2_with fail
  all_goals
    refine (types_any _ _ (by decide)).mono ?_
    rintro e w1 ⟨v1, rfl, ho1, hb1⟩
    go_wp2_with fail
    refine (types_any _ _ (by decide)).mono ?_
    rintro e w2 ⟨v2, rfl, ho2, hb2⟩
    go_wp2_with fail
    go_ret2
    refine ⟨v1, v2, rfl, own_of_eq ?_ (ho1.below hb2), own_of_eq ?_ (ho2.lower hb1.size), hb1.trans (hb2.mono hb1.size)⟩ <;> (simp_all [pinsIn, pinsOut, pinStr]; done)
end Go.Proofs.Ytjanofopmmndoaa

namespace Go.Proofs.Ytjanofopmmndoaa
open Go.RowKit
structure GBlock where
  kind : Int
  w0 : Bool
  w1 : Bool
  ran : Bool
  going : Bool
  frm : Int
  et : Int
  cv : Int
  q : Bool
  p : Bool
def encBlk (b : GBlock) : List Value := [.int .u8 b.kind, .bool b.w0, .bool b.w1, .bool b.ran, .bool b.going, .int .i64 b.frm, .int .i64 b.et, .int .i64 b.cv, .bool b.q, .bool b.p]
def vBlk (b : GBlock) : Value := .agg #[.int .u8 b.kind, .bool b.w0, .bool b.w1, .bool b.ran, .bool b.going, .int .i64 b.frm, .int .i64 b.et, .int .i64 b.cv, .bool b.q, .bool b.p]
theorem encBlk_len (b : GBlock) : (encBlk b).length = 10 := rfl
structure GBlock.Wf (b : GBlock) : Prop where
  kind : 0 ≤ b.kind ∧ b.kind ≤ 255
  frm : -9223372036854775808 ≤ b.frm ∧ b.frm ≤ 9223372036854775807
  et : -9223372036854775808 ≤ b.et ∧ b.et ≤ 9223372036854775807
  cv : -9223372036854775808 ≤ b.cv ∧ b.cv ≤ 9223372036854775807
/-- The bounds of the numbers of a right block. -/
def bndB (b : GBlock) : Bool := decide (0 ≤ b.frm) && decide (b.frm ≤ 1125899906842624) && decide (0 ≤ b.et) && decide (b.et ≤ 1125899906842624) && decide (-2147483648 ≤ b.cv) && decide (b.cv ≤ 2147483647)
/-- What a kind may hold beside its kind and its output. -/
def useB (b : GBlock) : Bool :=
  if b.kind = 1 ∨ b.kind = 2 ∨ b.kind = 3 then !b.w1 && !b.ran && (b.going || decide (b.frm = 0)) && decide (b.cv = 0) && !b.p
  else if b.kind = 4 ∨ b.kind = 5 then !b.w1 && !b.ran && !b.going && decide (b.frm = 0) && decide (b.et = 0) && !b.p
  else if b.kind = 6 then !b.ran && !b.going && decide (b.frm = 0) && decide (b.et = 0)
  else if b.kind = 7 ∨ b.kind = 8 then !b.w1 && !b.ran && !b.going && decide (b.frm = 0) && decide (b.et = 0) && decide (b.cv = 0) && !b.p
  else if b.kind = 9 ∨ b.kind = 10 then !b.w0 && !b.w1 && !b.ran && !b.going && decide (b.frm = 0) && decide (b.et = 0) && decide (b.cv = 0) && !b.p
  else if b.kind = 11 then !b.going && decide (b.frm = 0) && decide (b.et = 0) && !b.p
  else false
def rightBlk (b : GBlock) : Bool := bndB b && useB b
end Go.Proofs.Ytjanofopmmndoaa

namespace Go.Proofs.Ytjanofopmmndoaa
open Go.RowKit
theorem row10 {w : World} {g : Nat} {v0 v1 v2 v3 v4 v5 v6 v7 v8 v9 : Value} {T : TypeId} (h : w.heap[g]? = some (.cells #[v0, v1, v2, v3, v4, v5, v6, v7, v8, v9] T (0, 0))) : w.cell? ⟨g, 0, none⟩ = some v0 ∧ w.cell? ⟨g, 1, none⟩ = some v1 ∧ w.cell? ⟨g, 2, none⟩ = some v2 ∧ w.cell? ⟨g, 3, none⟩ = some v3 ∧ w.cell? ⟨g, 4, none⟩ = some v4 ∧ w.cell? ⟨g, 5, none⟩ = some v5 ∧ w.cell? ⟨g, 6, none⟩ = some v6 ∧ w.cell? ⟨g, 7, none⟩ = some v7 ∧ w.cell? ⟨g, 8, none⟩ = some v8 ∧ w.cell? ⟨g, 9, none⟩ = some v9 ∧ w.frozen? ⟨g, 0, none⟩ = false ∧ w.frozen? ⟨g, 1, none⟩ = false ∧ w.frozen? ⟨g, 2, none⟩ = false ∧ w.frozen? ⟨g, 3, none⟩ = false ∧ w.frozen? ⟨g, 4, none⟩ = false ∧ w.frozen? ⟨g, 5, none⟩ = false ∧ w.frozen? ⟨g, 6, none⟩ = false ∧ w.frozen? ⟨g, 7, none⟩ = false ∧ w.frozen? ⟨g, 8, none⟩ = false ∧ w.frozen? ⟨g, 9, none⟩ = false :=
  ⟨cell_of_row w g 0 _ T _ h, cell_of_row w g 1 _ T _ h, cell_of_row w g 2 _ T _ h, cell_of_row w g 3 _ T _ h, cell_of_row w g 4 _ T _ h, cell_of_row w g 5 _ T _ h, cell_of_row w g 6 _ T _ h, cell_of_row w g 7 _ T _ h, cell_of_row w g 8 _ T _ h, cell_of_row w g 9 _ T _ h, frozen_of_row w g 0 _ T h, frozen_of_row w g 1 _ T h, frozen_of_row w g 2 _ T h, frozen_of_row w g 3 _ T h, frozen_of_row w g 4 _ T h, frozen_of_row w g 5 _ T h, frozen_of_row w g 6 _ T h, frozen_of_row w g 7 _ T h, frozen_of_row w g 8 _ T h, frozen_of_row w g 9 _ T h⟩
theorem set10_0 {w : World} {g : Nat} {v0 v1 v2 v3 v4 v5 v6 v7 v8 v9 u : Value} {T : TypeId} (h : w.heap[g]? = some (.cells #[v0, v1, v2, v3, v4, v5, v6, v7, v8, v9] T (0, 0))) : (w.setCell ⟨g, 0, none⟩ u).heap[g]? = some (.cells #[u, v1, v2, v3, v4, v5, v6, v7, v8, v9] T (0, 0)) := heap_setCell_same w g 0 _ T u h
theorem set10_1 {w : World} {g : Nat} {v0 v1 v2 v3 v4 v5 v6 v7 v8 v9 u : Value} {T : TypeId} (h : w.heap[g]? = some (.cells #[v0, v1, v2, v3, v4, v5, v6, v7, v8, v9] T (0, 0))) : (w.setCell ⟨g, 1, none⟩ u).heap[g]? = some (.cells #[v0, u, v2, v3, v4, v5, v6, v7, v8, v9] T (0, 0)) := heap_setCell_same w g 1 _ T u h
theorem set10_2 {w : World} {g : Nat} {v0 v1 v2 v3 v4 v5 v6 v7 v8 v9 u : Value} {T : TypeId} (h : w.heap[g]? = some (.cells #[v0, v1, v2, v3, v4, v5, v6, v7, v8, v9] T (0, 0))) : (w.setCell ⟨g, 2, none⟩ u).heap[g]? = some (.cells #[v0, v1, u, v3, v4, v5, v6, v7, v8, v9] T (0, 0)) := heap_setCell_same w g 2 _ T u h
theorem set10_3 {w : World} {g : Nat} {v0 v1 v2 v3 v4 v5 v6 v7 v8 v9 u : Value} {T : TypeId} (h : w.heap[g]? = some (.cells #[v0, v1, v2, v3, v4, v5, v6, v7, v8, v9] T (0, 0))) : (w.setCell ⟨g, 3, none⟩ u).heap[g]? = some (.cells #[v0, v1, v2, u, v4, v5, v6, v7, v8, v9] T (0, 0)) := heap_setCell_same w g 3 _ T u h
theorem set10_4 {w : World} {g : Nat} {v0 v1 v2 v3 v4 v5 v6 v7 v8 v9 u : Value} {T : TypeId} (h : w.heap[g]? = some (.cells #[v0, v1, v2, v3, v4, v5, v6, v7, v8, v9] T (0, 0))) : (w.setCell ⟨g, 4, none⟩ u).heap[g]? = some (.cells #[v0, v1, v2, v3, u, v5, v6, v7, v8, v9] T (0, 0)) := heap_setCell_same w g 4 _ T u h
theorem set10_5 {w : World} {g : Nat} {v0 v1 v2 v3 v4 v5 v6 v7 v8 v9 u : Value} {T : TypeId} (h : w.heap[g]? = some (.cells #[v0, v1, v2, v3, v4, v5, v6, v7, v8, v9] T (0, 0))) : (w.setCell ⟨g, 5, none⟩ u).heap[g]? = some (.cells #[v0, v1, v2, v3, v4, u, v6, v7, v8, v9] T (0, 0)) := heap_setCell_same w g 5 _ T u h
theorem set10_6 {w : World} {g : Nat} {v0 v1 v2 v3 v4 v5 v6 v7 v8 v9 u : Value} {T : TypeId} (h : w.heap[g]? = some (.cells #[v0, v1, v2, v3, v4, v5, v6, v7, v8, v9] T (0, 0))) : (w.setCell ⟨g, 6, none⟩ u).heap[g]? = some (.cells #[v0, v1, v2, v3, v4, v5, u, v7, v8, v9] T (0, 0)) := heap_setCell_same w g 6 _ T u h
theorem set10_7 {w : World} {g : Nat} {v0 v1 v2 v3 v4 v5 v6 v7 v8 v9 u : Value} {T : TypeId} (h : w.heap[g]? = some (.cells #[v0, v1, v2, v3, v4, v5, v6, v7, v8, v9] T (0, 0))) : (w.setCell ⟨g, 7, none⟩ u).heap[g]? = some (.cells #[v0, v1, v2, v3, v4, v5, v6, u, v8, v9] T (0, 0)) := heap_setCell_same w g 7 _ T u h
theorem set10_8 {w : World} {g : Nat} {v0 v1 v2 v3 v4 v5 v6 v7 v8 v9 u : Value} {T : TypeId} (h : w.heap[g]? = some (.cells #[v0, v1, v2, v3, v4, v5, v6, v7, v8, v9] T (0, 0))) : (w.setCell ⟨g, 8, none⟩ u).heap[g]? = some (.cells #[v0, v1, v2, v3, v4, v5, v6, v7, u, v9] T (0, 0)) := heap_setCell_same w g 8 _ T u h
theorem set10_9 {w : World} {g : Nat} {v0 v1 v2 v3 v4 v5 v6 v7 v8 v9 u : Value} {T : TypeId} (h : w.heap[g]? = some (.cells #[v0, v1, v2, v3, v4, v5, v6, v7, v8, v9] T (0, 0))) : (w.setCell ⟨g, 9, none⟩ u).heap[g]? = some (.cells #[v0, v1, v2, v3, v4, v5, v6, v7, v8, u] T (0, 0)) := heap_setCell_same w g 9 _ T u h
theorem row5 {w : World} {g : Nat} {v0 v1 v2 v3 v4 : Value} {T : TypeId} (h : w.heap[g]? = some (.cells #[v0, v1, v2, v3, v4] T (0, 0))) : w.cell? ⟨g, 0, none⟩ = some v0 ∧ w.cell? ⟨g, 1, none⟩ = some v1 ∧ w.cell? ⟨g, 2, none⟩ = some v2 ∧ w.cell? ⟨g, 3, none⟩ = some v3 ∧ w.cell? ⟨g, 4, none⟩ = some v4 ∧ w.frozen? ⟨g, 0, none⟩ = false ∧ w.frozen? ⟨g, 1, none⟩ = false ∧ w.frozen? ⟨g, 2, none⟩ = false ∧ w.frozen? ⟨g, 3, none⟩ = false ∧ w.frozen? ⟨g, 4, none⟩ = false :=
  ⟨cell_of_row w g 0 _ T _ h, cell_of_row w g 1 _ T _ h, cell_of_row w g 2 _ T _ h, cell_of_row w g 3 _ T _ h, cell_of_row w g 4 _ T _ h, frozen_of_row w g 0 _ T h, frozen_of_row w g 1 _ T h, frozen_of_row w g 2 _ T h, frozen_of_row w g 3 _ T h, frozen_of_row w g 4 _ T h⟩
theorem set5_0 {w : World} {g : Nat} {v0 v1 v2 v3 v4 u : Value} {T : TypeId} (h : w.heap[g]? = some (.cells #[v0, v1, v2, v3, v4] T (0, 0))) : (w.setCell ⟨g, 0, none⟩ u).heap[g]? = some (.cells #[u, v1, v2, v3, v4] T (0, 0)) := heap_setCell_same w g 0 _ T u h
theorem set5_1 {w : World} {g : Nat} {v0 v1 v2 v3 v4 u : Value} {T : TypeId} (h : w.heap[g]? = some (.cells #[v0, v1, v2, v3, v4] T (0, 0))) : (w.setCell ⟨g, 1, none⟩ u).heap[g]? = some (.cells #[v0, u, v2, v3, v4] T (0, 0)) := heap_setCell_same w g 1 _ T u h
theorem set5_2 {w : World} {g : Nat} {v0 v1 v2 v3 v4 u : Value} {T : TypeId} (h : w.heap[g]? = some (.cells #[v0, v1, v2, v3, v4] T (0, 0))) : (w.setCell ⟨g, 2, none⟩ u).heap[g]? = some (.cells #[v0, v1, u, v3, v4] T (0, 0)) := heap_setCell_same w g 2 _ T u h
theorem set5_3 {w : World} {g : Nat} {v0 v1 v2 v3 v4 u : Value} {T : TypeId} (h : w.heap[g]? = some (.cells #[v0, v1, v2, v3, v4] T (0, 0))) : (w.setCell ⟨g, 3, none⟩ u).heap[g]? = some (.cells #[v0, v1, v2, u, v4] T (0, 0)) := heap_setCell_same w g 3 _ T u h
theorem set5_4 {w : World} {g : Nat} {v0 v1 v2 v3 v4 u : Value} {T : TypeId} (h : w.heap[g]? = some (.cells #[v0, v1, v2, v3, v4] T (0, 0))) : (w.setCell ⟨g, 4, none⟩ u).heap[g]? = some (.cells #[v0, v1, v2, v3, u] T (0, 0)) := heap_setCell_same w g 4 _ T u h
theorem grown_set (w : World) (g j : Nat) (u : Value) : w.grownBy (w.setCell ⟨g, j, none⟩ u) (some g) :=
  ⟨rfl, rfl, rfl, by simp, fun i _ hr => Below.heap_setCell w ⟨g, j, none⟩ u i (fun e => hr (by rw [e]))⟩
theorem grown_drew (w : World) (row : Option Nat) : w.grownBy w.drew row := ⟨rfl, rfl, rfl, Nat.le_refl _, fun _ _ _ => rfl⟩
theorem grown_drewN (w : World) (n : Nat) (row : Option Nat) : w.grownBy (w.drewN n) row := ⟨rfl, rfl, rfl, Nat.le_refl _, fun _ _ _ => rfl⟩
theorem grown_refl (w : World) (row : Option Nat) : w.grownBy w row := ⟨rfl, rfl, rfl, Nat.le_refl _, fun _ _ _ => rfl⟩
theorem grown_Below {B : Nat} {w w' : World} {g : Nat} (h : w.grownBy w' (some g)) (h1 : B ≤ w.heap.size) (h2 : B ≤ g) : Below B w w' := (Below.refl B w).grown h h1 (fun k hk => by cases hk; exact h2)
theorem grown_other {w w' : World} {g i : Nat} {o : Obj} (h : w.grownBy w' (some g)) (hi : w.heap[i]? = some o) (hne : i ≠ g) : w'.heap[i]? = some o := by
  rw [h.block i (Array.getElem?_eq_some_iff.1 hi).1 (fun e => hne (by cases e; rfl))]; exact hi
theorem store10 {w : World} {g : Nat} {v0 v1 v2 v3 v4 v5 v6 v7 v8 v9 : Value} {T : TypeId} (h : w.heap[g]? = some (.cells #[v0, v1, v2, v3, v4, v5, v6, v7, v8, v9] T (0, 0))) (u0 u1 u2 u3 u4 u5 u6 u7 u8 u9 : Value) : ∃ w2, ((((((((((w.setCell ⟨g, 0, none⟩ u0).setCell ⟨g, 1, none⟩ u1).setCell ⟨g, 2, none⟩ u2).setCell ⟨g, 3, none⟩ u3).setCell ⟨g, 4, none⟩ u4).setCell ⟨g, 5, none⟩ u5).setCell ⟨g, 6, none⟩ u6).setCell ⟨g, 7, none⟩ u7).setCell ⟨g, 8, none⟩ u8).setCell ⟨g, 9, none⟩ u9) = w2 ∧ w2.heap[g]? = some (.cells #[u0, u1, u2, u3, u4, u5, u6, u7, u8, u9] T (0, 0)) ∧ w.grownBy w2 (some g) :=
  ⟨_, rfl, (set10_9 (set10_8 (set10_7 (set10_6 (set10_5 (set10_4 (set10_3 (set10_2 (set10_1 (set10_0 h)))))))))), grown_trans (grown_trans (grown_trans (grown_trans (grown_trans (grown_trans (grown_trans (grown_trans (grown_trans (grown_set _ _ _ _) (grown_set _ _ _ _)) (grown_set _ _ _ _)) (grown_set _ _ _ _)) (grown_set _ _ _ _)) (grown_set _ _ _ _)) (grown_set _ _ _ _)) (grown_set _ _ _ _)) (grown_set _ _ _ _)) (grown_set _ _ _ _)⟩
theorem res_cell_tmp {P : Program} {fn : Func} {p u : Tmp} {ty : TypeId} (h : fn.results = #[.cell p ty, .tmp u]) (tmps : Array Value) (w : World) (g : Nat) {t : TypeId} {cs : Array Value} {fr : Nat × Nat} {d : TypeDesc}
    (hp : tmps.getD p undef = .pointer (some ⟨g, 0, none⟩)) (hg : w.heap[g]? = some (.cells cs t fr))
    (hu : P.underlying ty = some d) (hd : (match d with | .struct _ | .array _ _ => true | _ => false) = true) (hi : (P.info? ty).map (·.size) = some cs.size) :
    (results fn tmps).run P w = .ok (.tuple #[.agg cs, tmps.getD u undef]) w := by
  rw [results_cell_tmp h, hp]
  simp [asAddr, run_loadVar_row w g t ty cs fr d hg hu hd hi, Result.andThen]
end Go.Proofs.Ytjanofopmmndoaa

namespace Go.Proofs.Ytjanofopmmndoaa
open Go.RowKit
theorem Try.sizeBlk : (Try.prog.info? 25).map (·.size) = some 10 := by kernel_rfl
def newB (k : Int) : GBlock := ⟨k, false, false, false, false, 0, 0, 0, false, false⟩
theorem pinsIn_pos {k : Int} (h : 1 ≤ k) (h' : k ≤ 11) : 0 < (pinsIn k).length := by
  rcases (by omega : k = 1 ∨ k = 2 ∨ k = 3 ∨ k = 4 ∨ k = 5 ∨ k = 6 ∨ k = 7 ∨ k = 8 ∨ k = 9 ∨ k = 10 ∨ k = 11) with rfl | rfl | rfl | rfl | rfl | rfl | rfl | rfl | rfl | rfl | rfl <;> decide
theorem pinsIn_none {k : Int} (h : k < 1 ∨ 11 < k) : pinsIn k = [] := by
  unfold pinsIn pinStr
  rw [if_neg (by omega), if_neg (by omega), if_neg (by omega), if_neg (by omega), if_neg (by omega), if_neg (by omega)]
  rfl
set_option maxRecDepth 100000 in
set_option maxHeartbeats 400000 in
theorem new_any (k : Int) (hk : 1 ≤ k) (hk' : k ≤ 11) (w : World) : Calls Try.prog 11 #[.int .u8 k] w fun e w' => e = .returned (.tuple #[vBlk (newB k), .int .i64 0]) ∧ Below w.heap.size w w' := by
  go_enter Try.func11, Try.ntmps11
  go_wp2_with fail
  refine (pins_any _ _).mono ?_
  rintro e w1 ⟨v1, v2, rfl, ho1, ho2, hb⟩
  obtain ⟨A, c, rfl⟩ := ho1.slice2
  obtain ⟨h1, h2, h3⟩ := one_block w (Obj.cells #[Value.int IntKind.u8 0, Value.bool false, Value.bool false, Value.bool false, Value.bool false, Value.int IntKind.i64 0, Value.int IntKind.i64 0, Value.int IntKind.i64 0, Value.bool false, Value.bool false] 25)
  have hh := hb.block w.heap.size (by rw [h3]; omega)
  rw [h2] at hh
  have HB := Fact.mk (h1.trans (hb.mono h1.size))
  obtain ⟨c0, c1, c2, c3, c4, c5, c6, c7, c8, c9, f0, f1, f2, f3, f4, f5, f6, f7, f8, f9⟩ := row10 hh
  have hn : (((pinsIn k).length : Int) == 0) = false := by have := pinsIn_pos hk hk'; exact beq_eq_false_iff_ne.2 (by omega)
  have HH := Fact.mk hh
  clear ho1 ho2 h1 h2 h3 hh hb
  go_wp2
  clear c0 c1 c2 c3 c4 c5 c6 c7 c8 c9 f0 f1 f2 f3 f4 f5 f6 f7 f8 f9
  obtain ⟨w2, e2, h2, g2⟩ := store10 HH.out (.int .u8 k) (.bool false) (.bool false) (.bool false) (.bool false) (.int .i64 0) (.int .i64 0) (.int .i64 0) (.bool false) (.bool false)
  rw [e2]
  exact bodyPost_ret (res_cell_tmp Try.results11 _ w2 w.heap.size rfl h2 Try.underlying25 rfl Try.sizeBlk) rfl ⟨rfl, HB.out.trans (grown_Below g2 HB.out.size (Nat.le_refl _))⟩
set_option maxRecDepth 100000 in
set_option maxHeartbeats 400000 in
theorem new_no (k : Int) (hk : k < 1 ∨ 11 < k) (w : World) : Calls Try.prog 11 #[.int .u8 k] w fun e w' => e = .returned (.tuple #[vBlk (newB 0), .int .i64 2]) ∧ Below w.heap.size w w' := by
  go_enter Try.func11, Try.ntmps11
  go_wp2_with fail
  refine (pins_any _ _).mono ?_
  rintro e w1 ⟨v1, v2, rfl, ho1, ho2, hb⟩
  rw [pinsIn_none hk] at ho1
  obtain ⟨A, c, rfl⟩ := ho1.slice2
  obtain ⟨h1, h2, h3⟩ := one_block w (Obj.cells #[Value.int IntKind.u8 0, Value.bool false, Value.bool false, Value.bool false, Value.bool false, Value.int IntKind.i64 0, Value.int IntKind.i64 0, Value.int IntKind.i64 0, Value.bool false, Value.bool false] 25)
  have hh := hb.block w.heap.size (by rw [h3]; omega)
  rw [h2] at hh
  have HB := Fact.mk (h1.trans (hb.mono h1.size))
  obtain ⟨c0, c1, c2, c3, c4, c5, c6, c7, c8, c9, f0, f1, f2, f3, f4, f5, f6, f7, f8, f9⟩ := row10 hh
  have HH := Fact.mk hh
  have HK := Fact.mk hk
  clear ho1 ho2 h1 h2 h3 hh hb hk
  go_wp2
  clear c0 c1 c2 c3 c4 c5 c6 c7 c8 c9 f0 f1 f2 f3 f4 f5 f6 f7 f8 f9
  obtain ⟨w2, e2, h2, g2⟩ := store10 HH.out (.int .u8 0) (.bool false) (.bool false) (.bool false) (.bool false) (.int .i64 0) (.int .i64 0) (.int .i64 0) (.bool false) (.bool false)
  rw [e2]
  exact bodyPost_ret (res_cell_tmp Try.results11 _ w2 w.heap.size rfl h2 Try.underlying25 rfl Try.sizeBlk) rfl ⟨rfl, HB.out.trans (grown_Below g2 HB.out.size (Nat.le_refl _))⟩
end Go.Proofs.Ytjanofopmmndoaa

namespace Go.Proofs.Ytjanofopmmndoaa
open Go.RowKit
def oneI64 (x : Int) : List Value := [.int .i64 x]
theorem oneI64_len (x : Int) : (oneI64 x).length = 1 := rfl
def onB (ins : List Int) (i : Nat) : Bool := decide (ins.getD i 0 = 1)
def sinceB (b : GBlock) (now : Int) : Int := if b.going = true then b.frm else now
def goneB (b : GBlock) (now : Int) : Int := max (now - sinceB b now) 0
def goB (b : GBlock) (now pt : Int) : GBlock := { b with going := true, frm := sinceB b now, et := min (goneB b now) pt }
def overB (b : GBlock) (now pt : Int) : Bool := decide (pt ≤ goneB b now)
def stopB (b : GBlock) : GBlock := { b with going := false, frm := 0 }
/-- A runner at R, its block at B. -/
structure RunSt (w : World) (R B : Nat) (ins : List Int) (now : Int) (rise fall : Bool) (b : GBlock) : Prop where
  run : ∃ vs, Rd oneI64 1 w vs ins ∧ vs.ownBlock ≠ some B ∧ w.heap[R]? = some (.cells #[.pointer (some ⟨B, 0, none⟩), vs, .int .i64 now, .bool rise, .bool fall] 68 (0, 0))
  blk : w.heap[B]? = some (.cells #[.int .u8 b.kind, .bool b.w0, .bool b.w1, .bool b.ran, .bool b.going, .int .i64 b.frm, .int .i64 b.et, .int .i64 b.cv, .bool b.q, .bool b.p] 25 (0, 0))
  ne : R ≠ B
theorem Rd.grown {α : Type} {enc : α → List Value} {k : Nat} {w w' : World} {v : Value} {xs : List α} {g : Nat} (h : Rd enc k w v xs) (hg : w.grownBy w' (some g)) (hne : v.ownBlock ≠ some g) : Rd enc k w' v xs := by
  obtain ⟨h0, A, c, h1, h2, h4, h3⟩ := h
  refine ⟨h0, A, c, h1, h2, h4, fun hp => ?_⟩
  obtain ⟨b, off, e, hc⟩ := h3 hp
  refine ⟨b, off, e, fun j hj i u hu => hg.cell (hc j hj i u hu) (fun e2 => hne ?_)⟩
  subst h1 e
  exact e2
theorem RunSt.next {w w' : World} {R B : Nat} {ins : List Int} {now : Int} {rise fall : Bool} {b b' : GBlock} (h : RunSt w R B ins now rise fall b) (hg : w.grownBy w' (some B))
    (hb : w'.heap[B]? = some (.cells #[.int .u8 b'.kind, .bool b'.w0, .bool b'.w1, .bool b'.ran, .bool b'.going, .int .i64 b'.frm, .int .i64 b'.et, .int .i64 b'.cv, .bool b'.q, .bool b'.p] 25 (0, 0))) : RunSt w' R B ins now rise fall b' := by
  obtain ⟨⟨vs, h1, h2, h3⟩, _, h5⟩ := h
  exact ⟨⟨vs, h1.grown hg h2, h2, grown_other hg h3 h5⟩, hb, h5⟩
theorem Rd.at64 {w : World} {v : Value} {xs : List Int} (h : Rd oneI64 1 w v xs) (i : Nat) (hi : i < xs.length) : ∃ b off c, v = .slice (some ⟨b, off, none⟩) xs.length c ∧ w.cell? ⟨b, off + i, none⟩ = some (.int .i64 (xs.getD i 0)) := by
  obtain ⟨h0, A, c, rfl, h2, h4, h3⟩ := h
  obtain ⟨b, off, rfl, hc⟩ := h3 (by omega)
  refine ⟨b, off, c, rfl, ?_⟩
  have := hc i hi 0 (.int .i64 xs[i]) rfl
  rw [show off + i * 1 + 0 = off + i by omega] at this
  rw [this, List.getD_eq_getElem?_getD, List.getElem?_eq_getElem hi]
  rfl
/-- What a method of a runner makes: the block, nothing else. -/
def RunPost (w : World) (R B : Nat) (ins : List Int) (now : Int) (rise fall : Bool) (b' : GBlock) (v : Value) (e : Ending) (w' : World) : Prop := e = .returned v ∧ RunSt w' R B ins now rise fall b' ∧ w.grownBy w' (some B)
end Go.Proofs.Ytjanofopmmndoaa

