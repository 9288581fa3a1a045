/- A region that draws its order, whose operations put values into slots and make or change memory of their own: each claim bears the blocks that it stands on, and live claims stand on unlike blocks. -/
import Derived.Test.YtiogpainajokkaaMchM
namespace Go.Proofs.Ytiogpainajokkaa
open Go.RowKit
inductive XSpec
  | val (v : Value)
  | foot (S : World → Value → Prop) (φ : Value → Nat → Prop)
def XSpec.holds (w : World) (s : XSpec) (v : Value) : Prop :=
  match s with
  | .val v0 => v = v0
  | .foot S _ => S w v
def XSpec.on (s : XSpec) (v : Value) (k : Nat) : Prop :=
  match s with
  | .val _ => False
  | .foot _ φ => φ v k
/-- A claim hangs on its blocks alone, and these are the call's own. -/
def XSpec.Fine (B0 : Nat) (s : XSpec) : Prop :=
  match s with
  | .val _ => True
  | .foot S φ => (∀ w w' v, S w v → w.heap.size ≤ w'.heap.size → (∀ k, φ v k → w'.heap[k]? = w.heap[k]?) → S w' v) ∧ ∀ w v k, S w v → φ v k → B0 ≤ k ∧ k < w.heap.size
abbrev XClaim := Nat × List Nat × Nat × XSpec
def XLive (b : Nat → Bool) (x : XClaim) : Prop := b x.1 = true ∧ ∀ c ∈ x.2.1, b c = false
structure RegX (F : List XClaim) (D : List (Nat × Nat)) (fix : List (Nat × Value)) (w0 : World) (n : Nat) (b : Nat → Bool) (a : Act) (w : World) : Prop where
  defers : a.defers = []
  size : a.tmps.size = n
  fixed : ∀ x ∈ fix, a.eval (.tmp x.1) = x.2
  bel : Below w0.heap.size w0 w
  f : ∀ x ∈ F, XLive b x → x.2.2.2.holds w (a.eval (.tmp x.2.2.1))
  dis : ∀ x ∈ F, ∀ y ∈ F, XLive b x → XLive b y → x.1 ≠ y.1 → ∀ k, x.2.2.2.on (a.eval (.tmp x.2.2.1)) k → ¬ y.2.2.2.on (a.eval (.tmp y.2.2.1)) k
  dep : ∀ y ∈ D, b y.1 = true → b y.2 = true
section
variable {F : List XClaim} {D : List (Nat × Nat)} {fix : List (Nat × Value)} {w0 : World} {n : Nat} {b : Nat → Bool} {a : Act} {w : World}
theorem RegX.got (h : RegX F D fix w0 n b a w) {i d : Nat} {cs : List Nat} {s : XSpec} (hx : (i, cs, d, s) ∈ F) (hb : b i = true) (hc : ∀ c ∈ cs, b c = false) : s.holds w (a.eval (.tmp d)) := h.f _ hx ⟨hb, hc⟩
theorem live_ub {i : Nat} {x : XClaim} (h : XLive (ub b i) x) (hne : x.1 ≠ i) : XLive b x ∧ i ∉ x.2.1 := by
  obtain ⟨h1, h2⟩ := h
  rw [ub_ne hne] at h1
  refine ⟨⟨h1, fun c hc => ?_⟩, fun hm => ?_⟩
  · have := h2 c hc
    cases hb : b c with
    | false => rfl
    | true => rw [ub_of hb] at this; cases this
  · have := h2 i hm
    rw [ub_self] at this
    cases this
/-- One operation more. -/
theorem RegX.step (h : RegX F D fix w0 n b a w) (i : Nat) {a' : Act} {w' : World} (hF : ∀ x ∈ F, x.2.2.2.Fine w0.heap.size) (hsz : w.heap.size ≤ w'.heap.size) (hbel : Below w0.heap.size w0 w')
    (hdef : a'.defers = []) (hn : a'.tmps.size = n) (hfix : ∀ x ∈ fix, a'.eval (.tmp x.1) = a.eval (.tmp x.1)) (hkeep : ∀ x ∈ F, x.1 ≠ i → XLive b x → i ∉ x.2.1 → a'.eval (.tmp x.2.2.1) = a.eval (.tmp x.2.2.1))
    (hch : ∀ k, k < w.heap.size → (∀ x ∈ F, i ∈ x.2.1 → XLive b x → ¬ x.2.2.2.on (a.eval (.tmp x.2.2.1)) k) → w'.heap[k]? = w.heap[k]?) (hD : ∀ y ∈ D, y.1 = i → b y.2 = true)
    (hs : ∀ x ∈ F, x.1 = i → x.2.2.2.holds w' (a'.eval (.tmp x.2.2.1)) ∧ ∀ k, x.2.2.2.on (a'.eval (.tmp x.2.2.1)) k → w.heap.size ≤ k ∨ ∃ y ∈ F, i ∈ y.2.1 ∧ XLive b y ∧ y.2.2.2.on (a.eval (.tmp y.2.2.1)) k)
    (huniq : ∀ x ∈ F, ∀ y ∈ F, x.1 = y.1 → x = y) : RegX F D fix w0 n (ub b i) a' w' := by
  have low : ∀ x ∈ F, XLive b x → ∀ k, x.2.2.2.on (a.eval (.tmp x.2.2.1)) k → k < w.heap.size := fun x hx hl k hk => by
    obtain ⟨x1, x2, x3, s⟩ := x
    cases s with
    | val v => cases hk
    | foot S φ => exact ((hF _ hx).2 w _ k (h.f _ hx hl) hk).2
  refine ⟨hdef, hn, fun x hx => (hfix x hx).trans (h.fixed x hx), hbel, fun x hx hl => ?_, fun x hx y hy hlx hly hne k hkx hky => ?_, fun y hy hby => ?_⟩
  · by_cases e : x.1 = i
    · exact (hs x hx e).1
    · obtain ⟨hl', hni⟩ := live_ub hl e
      have hk := h.f x hx hl'
      rw [hkeep x hx e hl' hni]
      obtain ⟨x1, x2, x3, s⟩ := x
      cases s with
      | val v => exact hk
      | foot S φ =>
        refine (hF _ hx).1 w w' _ hk hsz fun k hkk => hch k (low _ hx hl' k hkk) fun y hy hm hly hon => ?_
        have hne : y.1 ≠ x1 := fun e2 => by
          have := huniq y hy _ hx e2
          subst this
          exact hni hm
        exact h.dis y hy _ hx hly hl' hne k hon hkk
  · by_cases ex : x.1 = i
    · have ey : y.1 ≠ i := fun e => hne (ex.trans e.symm)
      obtain ⟨hly', hniy⟩ := live_ub hly ey
      rw [hkeep y hy ey hly' hniy] at hky
      rcases (hs x hx ex).2 k hkx with h1 | ⟨z, hz, hm, hlz, hon⟩
      · have := low y hy hly' k hky
        omega
      · refine h.dis z hz y hy hlz hly' (fun e => ?_) k hon hky
        have := huniq z hz y hy e
        subst this
        exact hniy hm
    · obtain ⟨hlx', hnix⟩ := live_ub hlx ex
      rw [hkeep x hx ex hlx' hnix] at hkx
      by_cases ey : y.1 = i
      · rcases (hs y hy ey).2 k hky with h1 | ⟨z, hz, hm, hlz, hon⟩
        · have := low x hx hlx' k hkx
          omega
        · refine h.dis z hz x hx hlz hlx' (fun e => ?_) k hon hkx
          have := huniq z hz x hx e
          subst this
          exact hnix hm
      · obtain ⟨hly', hniy⟩ := live_ub hly ey
        rw [hkeep y hy ey hly' hniy] at hky
        exact h.dis x hx y hy hlx' hly' hne k hkx hky
  · by_cases e : y.1 = i
    · exact ub_of (hD y hy e)
    · rw [ub_ne e] at hby
      exact ub_of (h.dep y hy hby)
def slX (D : List (Nat × Nat)) (i d : Nat) (x : XClaim) : Bool := x.1 == i || x.2.2.1 != d || x.2.1.contains i || D.contains (x.1, i)
/-- A value put into a slot; memory is changed at most at the blocks of claims that end here. -/
theorem RegX.put (h : RegX F D fix w0 n b a w) (i d : Nat) (v : Value) {w' : World} (hF : ∀ x ∈ F, x.2.2.2.Fine w0.heap.size) (hb : b i = false) (hsz : w.heap.size ≤ w'.heap.size) (hbel : Below w0.heap.size w0 w')
    (hsl : F.all (slX D i d) = true) (hfix : fix.all (fun x => x.1 != d) = true) (hd : d < n)
    (hch : ∀ k, k < w.heap.size → (∀ x ∈ F, i ∈ x.2.1 → XLive b x → ¬ x.2.2.2.on (a.eval (.tmp x.2.2.1)) k) → w'.heap[k]? = w.heap[k]?) (hD : ∀ y ∈ D, y.1 = i → b y.2 = true)
    (hs : ∀ x ∈ F, x.1 = i → x.2.2.1 = d ∧ x.2.2.2.holds w' v ∧ ∀ k, x.2.2.2.on v k → w.heap.size ≤ k ∨ ∃ y ∈ F, i ∈ y.2.1 ∧ XLive b y ∧ y.2.2.2.on (a.eval (.tmp y.2.2.1)) k)
    (huniq : ∀ x ∈ F, ∀ y ∈ F, x.1 = y.1 → x = y) : RegX F D fix w0 n (ub b i) (a.put (some d) v) w' := by
  refine h.step i hF hsz hbel h.defers (by simpa [Act.put] using h.size) (fun x hx => ?_) (fun x hx hne hl hni => ?_) hch hD (fun x hx e => ?_) huniq
  · have := List.all_eq_true.1 hfix x hx
    exact eval_put_ne (by simpa using this)
  · have hs1 := List.all_eq_true.1 hsl x hx
    simp only [slX, Bool.or_eq_true, beq_iff_eq, bne_iff_ne] at hs1
    refine eval_put_ne ?_
    rcases hs1 with ((h1 | h1) | h1) | h1
    · exact absurd h1 hne
    · exact h1
    · exact absurd (List.contains_iff_mem.1 h1) hni
    · have := h.dep _ (List.contains_iff_mem.1 h1) hl.1
      rw [hb] at this; cases this
  · obtain ⟨h1, h2, h3⟩ := hs x hx e
    rw [h1, eval_put_self (by rw [h.size]; exact hd)]
    exact ⟨h2, h3⟩
/-- Nothing is put: a store. -/
theorem RegX.mark (h : RegX F D fix w0 n b a w) (i : Nat) {w' : World} (hF : ∀ x ∈ F, x.2.2.2.Fine w0.heap.size) (hsz : w.heap.size ≤ w'.heap.size) (hbel : Below w0.heap.size w0 w')
    (hch : ∀ k, k < w.heap.size → (∀ x ∈ F, i ∈ x.2.1 → XLive b x → ¬ x.2.2.2.on (a.eval (.tmp x.2.2.1)) k) → w'.heap[k]? = w.heap[k]?) (hD : ∀ y ∈ D, y.1 = i → b y.2 = true)
    (hs : ∀ x ∈ F, x.1 = i → x.2.2.2.holds w' (a.eval (.tmp x.2.2.1)) ∧ ∀ k, x.2.2.2.on (a.eval (.tmp x.2.2.1)) k → w.heap.size ≤ k ∨ ∃ y ∈ F, i ∈ y.2.1 ∧ XLive b y ∧ y.2.2.2.on (a.eval (.tmp y.2.2.1)) k)
    (huniq : ∀ x ∈ F, ∀ y ∈ F, x.1 = y.1 → x = y) : RegX F D fix w0 n (ub b i) a w' :=
  h.step i hF hsz hbel h.defers h.size (fun _ _ => rfl) (fun _ _ _ _ _ => rfl) hch hD hs huniq
theorem below_ch {w w' : World} (h : Below w.heap.size w w') {P : Nat → Prop} : ∀ k, k < w.heap.size → P k → w'.heap[k]? = w.heap[k]? := fun k hk _ => h.block k hk
end
/-- A row of the call's own, as a claim. -/
def rowX {α : Type} (E : TypeId) (k : Nat) (enc : α → List Value) (B0 : Nat) (xs : List α) : XSpec := .foot (fun w v => Own E k enc w B0 v xs) (fun v g => v.ownBlock = some g)
theorem rowX_fine {α : Type} (E : TypeId) (k : Nat) (enc : α → List Value) (B0 : Nat) (xs : List α) : (rowX E k enc B0 xs).Fine B0 :=
  ⟨fun _ _ _ h _ hb => h.move fun b hb2 => hb b hb2, fun _ _ g h hg => World.ownsRow.lt h g hg⟩
/-- A box of the call's own, as a claim. -/
def boxX (B0 : Nat) (T : TypeId) (cs : Array Value) : XSpec := .foot (fun w v => ∃ g, v = .pointer (some ⟨g, 0, none⟩) ∧ B0 ≤ g ∧ w.heap[g]? = some (.cells cs T (0, 0))) (fun v g => v = .pointer (some ⟨g, 0, none⟩))
theorem boxX_fine (B0 : Nat) (T : TypeId) (cs : Array Value) : (boxX B0 T cs).Fine B0 := by
  refine ⟨fun w w' v ⟨g, h1, h2, h3⟩ _ hb => ⟨g, h1, h2, (hb g h1).trans h3⟩, fun w v k ⟨g, h1, h2, h3⟩ hk => ?_⟩
  rw [h1] at hk
  injection hk with hk
  injection hk with hk
  injection hk with hk
  subst hk
  exact ⟨h2, (Array.getElem?_eq_some_iff.1 h3).1⟩
/-- A claim of a value alone. -/
def pureX (S : Value → Prop) : XSpec := .foot (fun _ v => S v) (fun _ _ => False)
theorem pureX_fine (B0 : Nat) (S : Value → Prop) : (pureX S).Fine B0 := ⟨fun _ _ _ h _ _ => h, fun _ _ _ _ h => h.elim⟩
theorem row_new0X {α : Type} {enc : α → List Value} (w : World) (B0 : Nat) (h : B0 ≤ w.heap.size) (E : TypeId) (k : Nat) : Own E k enc (w.alloc (.cells #[] E)) B0 (.slice (some ⟨w.heap.size, 0, none⟩) 0 0) ([] : List α) := row_new0 w B0 h E k
theorem own_newX {α : Type} {E : TypeId} {k : Nat} {enc : α → List Value} (hk : ∀ x, (enc x).length = k) {W : World} {base g : Nat} {xs : List α} (h : W.heap[g]? = some (.cells (xs.flatMap enc).toArray E (0, 0))) (hb : base ≤ g) (hl : xs.length ≤ 100000) : Own E k enc W base (.slice (some ⟨g, 0, none⟩) xs.length xs.length) xs :=
  ⟨flatMap_len hk xs, .inr ⟨g, xs.length, _, rfl, hb, h, Nat.le_refl _, Nat.le_trans hl (by decide), by simp [flatMap_len hk xs], by rw [List.take_of_length_le (by rw [List.toList_toArray, flatMap_len hk xs]; exact Nat.le_refl _)]⟩⟩
end Go.Proofs.Ytiogpainajokkaa

