/- Words for maps that a call makes: a map's block told by the function that it holds. -/
import Derived.Test.YthiapebodpkamaaWords
import Derived.Carry
import Derived.MapKept
import Derived.Maps.Own
namespace Go.Proofs.Ythiapebodpkamaa
open Go.RowKit Go.MapKept
section
variable {κ : Type} [DecidableEq κ] {P : Program}
structure KeyLaw (P : Program) (K : TypeId) (d : TypeDesc) (mk : κ → Value) : Prop where
  und : P.underlying K = some d
  same : ∀ a b, Instr.sameNow d (mk a) (mk b) = some (decide (a = b))
  isKey : ∀ a, IsKey d (mk a)
  bits : ∀ a, Instr.sameBits 10000 (mk a) (mk a) = true
def look (a : κ) : List (κ × Value) → Option Value
  | [] => none
  | (b, v) :: l => if a = b then some v else look a l
def upd (a : κ) (v : Value) : List (κ × Value) → List (κ × Value)
  | [] => []
  | (b, u) :: l => if a = b then (a, v) :: l else (b, u) :: upd a v l
theorem look_append (a : κ) (l : List (κ × Value)) (b : κ) (v : Value) (h : look b l = none) : look a (l ++ [(b, v)]) = if a = b then some v else look a l := by
  induction l with
  | nil => simp [look]
  | cons p l ih =>
    obtain ⟨c, u⟩ := p
    simp only [List.cons_append, look] at h ⊢
    by_cases hbc : b = c
    · rw [if_pos hbc] at h; cases h
    · rw [if_neg hbc] at h
      by_cases hac : a = c
      · rw [if_pos hac, if_pos hac, if_neg (fun e : a = b => hbc (e.symm.trans hac))]
      · rw [if_neg hac, if_neg hac, ih h]
theorem look_upd (a : κ) (l : List (κ × Value)) (b : κ) (v : Value) (h : look b l ≠ none) : look a (upd b v l) = if a = b then some v else look a l := by
  induction l with
  | nil => exact absurd rfl h
  | cons p l ih =>
    obtain ⟨c, u⟩ := p
    simp only [look, upd] at h ⊢
    by_cases hbc : b = c
    · subst hbc
      rw [if_pos rfl]
      simp only [look]
      by_cases hab : a = b
      · rw [if_pos hab, if_pos hab]
      · rw [if_neg hab, if_neg hab, if_neg hab]
    · rw [if_neg hbc] at h ⊢
      simp only [look]
      by_cases hac : a = c
      · rw [if_pos hac, if_pos hac, if_neg (fun e : a = b => hbc (e.symm.trans hac))]
      · rw [if_neg hac, if_neg hac, ih h]
def MapOf (mk : κ → Value) (w : World) (B : Nat) (l : List (κ × Value)) : Prop := ∃ es clock, w.heap[B]? = some (.map es clock) ∧ es.toList.map (fun e => (e.key, e.val)) = l.map (fun p => (mk p.1, p.2))
def MapFn (mk : κ → Value) (w : World) (B : Nat) (m : κ → Option Value) : Prop := ∃ l, MapOf mk w B l ∧ ∀ a, look a l = m a
theorem findNow_look {K : TypeId} {d : TypeDesc} {mk : κ → Value} (L : KeyLaw P K d mk) (a : κ) : ∀ (es : List MapEntry) (l : List (κ × Value)), es.map (fun e => (e.key, e.val)) = l.map (fun p => (mk p.1, p.2)) →
    (look a l = none → ∀ i, Instr.findNow d (mk a) es i = some none) ∧ (∀ v, look a l = some v → ∀ i, ∃ j, Instr.findNow d (mk a) es i = some (some (i + j, v)) ∧ (es[j]?).map (·.key) = some (mk a) ∧ ∀ u, (es.modify j fun e => { e with key := mk a, val := u }).map (fun e => (e.key, e.val)) = (upd a u l).map (fun p => (mk p.1, p.2)))
  | [], [], _ => ⟨fun _ _ => rfl, fun v h => by cases h⟩
  | [], _ :: _, h => by simp at h
  | _ :: _, [], h => by simp at h
  | e :: es, (b, v) :: l, h => by
    simp only [List.map_cons, List.cons.injEq, Prod.mk.injEq] at h
    obtain ⟨⟨hk, hv⟩, hr⟩ := h
    obtain ⟨ih1, ih2⟩ := findNow_look L a es l hr
    have hs := L.same a b
    by_cases hab : a = b
    · subst hab
      refine ⟨fun h => by simp [look] at h, fun v' h i => ⟨0, ?_, ?_, fun u => ?_⟩⟩
      · simp only [look, if_true, Option.some.injEq] at h
        subst h
        simp [Instr.findNow, hk, hs, hv]
      · simp [hk]
      · simp [upd, hr]
    · have hs' : Instr.sameNow d (mk a) e.key = some false := by rw [hk, hs, decide_eq_false hab]
      refine ⟨fun h i => ?_, fun v' h i => ?_⟩
      · simp only [look, if_neg hab] at h
        simp only [Instr.findNow, hs']
        exact ih1 h (i + 1)
      · simp only [look, if_neg hab] at h
        obtain ⟨j, h1, h2, h3⟩ := ih2 v' h (i + 1)
        refine ⟨j + 1, ?_, ?_, fun u => ?_⟩
        · simp only [Instr.findNow, hs', h1]
          rw [show i + 1 + j = i + (j + 1) by omega]
        · simpa using h2
        · simp only [upd, if_neg hab, List.modify_succ_cons, List.map_cons, h3 u, hk, hv]
variable {K : TypeId} {d : TypeDesc} {mk : κ → Value}
theorem MapFn.made (mk : κ → Value) (w : World) : MapFn mk (w.alloc (.map #[] 0)) w.heap.size (fun _ => none) := ⟨[], ⟨#[], 0, heap_alloc_new w _, rfl⟩, fun _ => rfl⟩
theorem MapFn.keep {w w' : World} {B : Nat} {m : κ → Option Value} (h : MapFn mk w B m) (hb : w'.heap[B]? = w.heap[B]?) : MapFn mk w' B m := by
  obtain ⟨l, ⟨es, c, h1, h2⟩, h3⟩ := h
  exact ⟨l, ⟨es, c, hb.trans h1, h2⟩, h3⟩
theorem MapFn.lt {w : World} {B : Nat} {m : κ → Option Value} (h : MapFn mk w B m) : B < w.heap.size := by
  obtain ⟨l, ⟨es, c, h1, _⟩, _⟩ := h
  exact (Array.getElem?_eq_some_iff.1 h1).1
theorem MapFn.ext {w : World} {B : Nat} {m m' : κ → Option Value} (h : MapFn mk w B m) (e : ∀ a, m a = m' a) : MapFn mk w B m' := by
  obtain ⟨l, h1, h3⟩ := h
  exact ⟨l, h1, fun a => (h3 a).trans (e a)⟩
theorem MapFn.run_hit (L : KeyLaw P K d mk) {T E : TypeId} (hT : P.underlying T = some (.map K E)) {w : World} {B : Nat} {m : κ → Option Value} (h : MapFn mk w B m) {a : κ} {v : Value} (hv : m a = some v) :
    (Instr.lookup T (.map (some B)) (mk a) false).run P w = .ok v w := by
  obtain ⟨l, ⟨es, c, h1, h2⟩, h3⟩ := h
  obtain ⟨j, hf, _⟩ := (findNow_look L a es.toList l h2).2 v ((h3 a).trans hv) 0
  simp [Instr.lookup, Sem.run_bind, run_underlying hT, Result.andThen, MapKept.run_getObj_map h1, run_checkKey L.und (L.isKey a), run_findKey L.und hf]
theorem MapFn.run_miss (L : KeyLaw P K d mk) {T E : TypeId} (hT : P.underlying T = some (.map K E)) {z : Value} (hz : ∀ w, (zeroValue E).run P w = .ok z w) {w : World} {B : Nat} {m : κ → Option Value} (h : MapFn mk w B m) {a : κ} (hv : m a = none) :
    (Instr.lookup T (.map (some B)) (mk a) false).run P w = .ok z w := by
  obtain ⟨l, ⟨es, c, h1, h2⟩, h3⟩ := h
  have hf := (findNow_look L a es.toList l h2).1 ((h3 a).trans hv) 0
  simp [Instr.lookup, Sem.run_bind, run_underlying hT, Result.andThen, MapKept.run_getObj_map h1, run_checkKey L.und (L.isKey a), run_findKey L.und hf, hz]
theorem MapFn.run_put (L : KeyLaw P K d mk) {T E : TypeId} (hT : P.underlying T = some (.map K E)) {w : World} {B : Nat} {m : κ → Option Value} (h : MapFn mk w B m) (a : κ) (v : Value) :
    ∃ w', (Instr.mapUpdate T (.map (some B)) (mk a) v).run P w = .ok () w' ∧ MapFn mk w' B (fun b => if b = a then some v else m b) ∧ w.grownBy w' (some B) ∧ w'.heap.size = w.heap.size := by
  obtain ⟨l, ⟨es, c, h1, h2⟩, h3⟩ := h
  have hlt : B < w.heap.size := (Array.getElem?_eq_some_iff.1 h1).1
  have hg : ∀ o : Obj, w.grownBy { w with heap := w.heap.setIfInBounds B o } (some B) := fun o => ⟨rfl, rfl, rfl, by simp, fun k _ hk => by
    simp only [Array.getElem?_setIfInBounds]
    rw [if_neg (fun e => hk (by rw [e]))]⟩
  cases hl : look a l with
  | none =>
    have hf := (findNow_look L a es.toList l h2).1 hl 0
    refine ⟨{ w with heap := w.heap.setIfInBounds B (.map (es.push ⟨mk a, v, c⟩) (c + 1)) }, by simp [Instr.mapUpdate, Sem.run_bind, run_underlying hT, Result.andThen, MapKept.run_getObj_map h1, run_checkKey L.und (L.isKey a), run_findKey L.und hf, MapKept.run_setObj_map _ h1], ⟨l ++ [(a, v)], ⟨es.push ⟨mk a, v, c⟩, c + 1, by simp [hlt], by simp [h2]⟩, fun b => by rw [look_append b l a v hl, h3]⟩, hg _, by simp⟩
  | some u =>
    obtain ⟨j, hf, hk, hm⟩ := (findNow_look L a es.toList l h2).2 u hl 0
    rw [Nat.zero_add] at hf
    have hk' : ((es[j]?).map (·.key)).getD (mk a) = mk a := by
      rw [Array.getElem?_toList] at hk
      rw [hk]; rfl
    refine ⟨{ w with heap := w.heap.setIfInBounds B (.map (es.modify j fun e => { e with key := mk a, val := v }) c) }, by simp [Instr.mapUpdate, Sem.run_bind, run_underlying hT, Result.andThen, MapKept.run_getObj_map h1, run_checkKey L.und (L.isKey a), run_findKey L.und hf, hk', Instr.keyThatStays, L.bits, MapKept.run_setObj_map _ h1], ⟨upd a v l, ⟨es.modify j fun e => { e with key := mk a, val := v }, c, by simp [hlt], by rw [Array.toList_modify]; exact hm v⟩, fun b => by rw [look_upd b l a v (by rw [hl]; simp), h3]⟩, hg _, by simp⟩
end
/-- A store into the map, at the operation, for the walk. -/
theorem wpList_put {κ : Type} [DecidableEq κ] {P : Program} {K : TypeId} {d : TypeDesc} {mk : κ → Value} (L : KeyLaw P K d mk) {T E : TypeId} (hT : P.underlying T = some (.map K E))
    {w : World} {ops : Array Oper} {rest : List Oper} {o : Oper} {a : Act} {Q : Exit → Act → World → Prop} (hg : o.guard = none) (m x v : Operand) (hop : o.op = Op.insert T m x v ∨ o.op = Op.mapUpdate T m x v) (hd : o.dst = none)
    (B : Nat) (f : κ → Option Value) (key : κ) (hm : a.eval m = .map (some B)) (hx : a.eval x = mk key) (h : MapFn mk w B f) (val : Value) (hv : a.eval v = val)
    (hK : ∀ w', MapFn mk w' B (fun b => if b = key then some val else f b) → w.grownBy w' (some B) → w'.heap.size = w.heap.size → wpList P ops Q rest a w') : wpList P ops Q (o :: rest) a w := by
  refine wpList_plain hg fun K' hK' => ?_
  obtain ⟨w', hrun, r1, r2, r3⟩ := h.run_put L hT key val
  unfold Oper.wp
  rcases hop with hop | hop <;> simp [execOp, hop, hm, hx, hv, hrun, Result.andThen]
  all_goals (refine hK' _ _ ?_; rw [hd]; exact hK w' r1 r2 r3)
/-- .. and what else the call has laid is below. -/
theorem wpList_putB {κ : Type} [DecidableEq κ] {P : Program} {K : TypeId} {d : TypeDesc} {mk : κ → Value} (L : KeyLaw P K d mk) {T E : TypeId} (hT : P.underlying T = some (.map K E))
    {w : World} {ops : Array Oper} {rest : List Oper} {o : Oper} {a : Act} {Q : Exit → Act → World → Prop} (hg : o.guard = none) (m x v : Operand) (hop : o.op = Op.insert T m x v ∨ o.op = Op.mapUpdate T m x v) (hd : o.dst = none)
    (B : Nat) (f : κ → Option Value) (key : κ) (hm : a.eval m = .map (some B)) (hx : a.eval x = mk key) (h : MapFn mk w B f) (val : Value) (hv : a.eval v = val) (B0 : Nat) (w0 : World) (hB : B0 ≤ B) (hb : Below B0 w0 w)
    (hK : ∀ w', MapFn mk w' B (fun b => if b = key then some val else f b) → Below B0 w0 w' → wpList P ops Q rest a w') : wpList P ops Q (o :: rest) a w :=
  wpList_put L hT hg m x v hop hd B f key hm hx h val hv fun w' h1 h2 _ => hK w' h1 (hb.grown h2 (Nat.le_trans hB (Nat.le_of_lt h.lt)) (fun k hk => by cases hk; exact hB))
/-- A lookup in the map, at the operation. -/
theorem wpList_look {κ : Type} [DecidableEq κ] {P : Program} {K : TypeId} {d : TypeDesc} {mk : κ → Value} (L : KeyLaw P K d mk) {T E : TypeId} (hT : P.underlying T = some (.map K E)) {z : Value} (hz : ∀ w, (zeroValue E).run P w = .ok z w)
    {w : World} {ops : Array Oper} {rest : List Oper} {o : Oper} {a : Act} {Q : Exit → Act → World → Prop} (hg : o.guard = none) (m x : Operand) (hop : o.op = Op.lookup T m x false)
    (B : Nat) (f : κ → Option Value) (key : κ) (hm : a.eval m = .map (some B)) (hx : a.eval x = mk key) (h : MapFn mk w B f) (val : Value) (hv : (f key).getD z = val)
    (hK : wpList P ops Q rest (a.put o.dst val) w) : wpList P ops Q (o :: rest) a w := by
  refine wpList_plain hg fun K' hK' => ?_
  have hrun : (Instr.lookup T (.map (some B)) (mk key) false).run P w = .ok val w := by
    cases hf : f key with
    | none => rw [hf] at hv; rw [← hv]; exact h.run_miss L hT hz hf
    | some u => rw [hf] at hv; rw [← hv]; exact h.run_hit L hT hf
  unfold Oper.wp
  simp [execOp, hop, hm, hx, hrun, Result.andThen]
  exact hK' _ _ hK
theorem keyLaw_int {P : Program} {K : TypeId} {k : IntKind} (h : P.underlying K = some (.int k)) : KeyLaw P K (.int k) (fun n : Int => Value.int k n) where
  und := h
  same a b := by
    simp only [Instr.sameNow, if_true, Option.some.injEq]
    rw [Bool.eq_iff_iff]
    simp
  isKey _ := rfl
  bits a := by simp [Instr.sameBits]
theorem bytes_beq (a b : ByteArray) : (a == b) = decide (a = b) := by
  obtain ⟨r, hr, hiff⟩ := sameNow_of_keys (d := .string) (a := .string a) (b := .string b) trivial trivial
  have e : (a == b) = r := by simpa [Instr.sameNow] using hr
  rw [e, Bool.eq_iff_iff, hiff]
  simp
theorem keyLaw_string {P : Program} {K : TypeId} (h : P.underlying K = some .string) : KeyLaw P K .string (fun s : ByteArray => Value.string s) where
  und := h
  same a b := by simp only [Instr.sameNow, bytes_beq]
  isKey _ := trivial
  bits a := by simp [Instr.sameBits, bytes_beq]
end Go.Proofs.Ythiapebodpkamaa

