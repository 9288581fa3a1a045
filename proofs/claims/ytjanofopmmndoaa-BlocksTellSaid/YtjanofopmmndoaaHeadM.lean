/- A region that draws its order, whose head only reads: the head is walked in the order of its text; what stands behind it is left as it is: all its orders. -/
import Derived.StillTail
import Derived.KernelRfl
import Derived.RegionTactic
namespace Go.Proofs.Ytjanofopmmndoaa
open Go
section
variable {P : Program} {ops : Array Oper} {md : Region.Mode} {w : World}
/-- Each operation behind n waits for one of those from n on. -/
def waitsTail (md : Region.Mode) (ops : Array Oper) (n : Nat) : Bool :=
  (List.range ops.size).all fun t => decide (t ≤ n) || (List.range t).any fun j => decide (n ≤ j) && Region.waitsFor md ops t j
def headEnd : Nat → Nat → Array Bool → Array Bool
  | 0, _, listed => listed
  | f + 1, k, listed => headEnd f (k + 1) (listed.setIfInBounds k true)
def headLex (md : Region.Mode) (ops : Array Oper) (n : Nat) : Nat → Nat → Array Bool → Bool
  | 0, _, listed => (Region.ready md ops listed).all fun j => decide (n ≤ j)
  | f + 1, k, listed => (Region.ready md ops listed).contains k && Region.free md ops listed k && headLex md ops n f (k + 1) (listed.setIfInBounds k true)
def headB (md : Region.Mode) (ops : Array Oper) (n : Nat) : Bool :=
  Region.noSelect ops && decide (n < ops.size) && Region.sinkB md ops n && waitsTail md ops n && headLex md ops n n 0 (Array.replicate ops.size false)
theorem not_ready_of {t j : Nat} {listed : Array Bool} (hw : Region.waitsFor md ops t j = true) (hu : listed.getD j true = false) : t ∉ Region.ready md ops listed := fun hr => by
  obtain ⟨_, o, ho, hall⟩ := mem_ready.1 hr
  obtain ⟨o', ho', e, he, hb, hon⟩ := Region.waitsFor_spec hw
  cases ho.symm.trans ho'
  have := hall e he hb
  rw [hon, getD_both hu] at this
  cases this
theorem head_waits {n : Nat} {listed : Array Bool} (hs : Region.sinkB md ops n = true) (inv : HeadInv md ops n listed) (hn : n < ops.size) :
    ∀ (d i : Nat), n - i = d → i < n → listed.getD i true = false → n ∉ Region.ready md ops listed := by
  intro d
  induction d using Nat.strongRecOn with
  | _ d ih =>
    intro i hd hi hu
    obtain ⟨j, hj, hj2⟩ := List.any_eq_true.1 (List.all_eq_true.1 hs i (List.mem_range.2 hi))
    simp only [Bool.and_eq_true, decide_eq_true_eq] at hj2
    have hjle := List.mem_range.1 hj
    by_cases hjn : j = n
    · subst hjn
      exact not_ready_of hj2.2 hu
    · refine ih (n - j) (by omega) j rfl (by omega) ?_
      obtain ⟨o, ho, e, he, hb, hon⟩ := Region.waitsFor_spec hj2.2
      refine getD_in (by rw [inv.size]; omega) ?_
      cases hl : listed.getD j false with
      | false => rfl
      | true =>
        have h2 := inv.closed j o ho hl e he hb
        rw [hon, getD_both hu] at h2
        cases h2
theorem ready_head {n i j : Nat} {listed : Array Bool} (hs : Region.sinkB md ops n = true) (ht : waitsTail md ops n = true) (hn : n < ops.size) (inv : HeadInv md ops n listed) (hi : i < n) (hu : listed.getD i true = false)
    (hj : j ∈ Region.ready md ops listed) : j < n := by
  rcases Nat.lt_or_ge j n with h | h
  · exact h
  · exfalso
    by_cases hjn : j = n
    · subst hjn
      exact head_waits hs inv hn _ i rfl hi hu hj
    · obtain ⟨_, o, ho, _⟩ := mem_ready.1 hj
      have hlt : j < ops.size := (Array.getElem?_eq_some_iff.1 ho).1
      have h1 := List.all_eq_true.1 ht j (List.mem_range.2 hlt)
      simp only [Bool.or_eq_true, decide_eq_true_eq] at h1
      rcases h1 with h1 | h1
      · omega
      · obtain ⟨m, hm, hm2⟩ := List.any_eq_true.1 h1
        simp only [Bool.and_eq_true, decide_eq_true_eq] at hm2
        have := List.mem_range.1 hm
        exact not_ready_of hm2.2 (inv.tail m hm2.1 (by omega)) hj
/-- What may come first may come whenever. -/
theorem head_swap {n i : Nat} {oi : Oper} {v : Value} {L : Array Bool → Act → Prop} (hi : ops[i]? = some oi) (hsel : ∀ (j : Nat) (o : Oper) cs b, ops[j]? = some o → o.op ≠ .select cs b)
    (hs : Region.sinkB md ops n = true) (ht : waitsTail md ops n = true) (hn : n < ops.size) (hin : i < n)
    (hdone : ∀ listed a, L listed a → ∀ j ∈ Region.ready md ops listed, n ≤ j) :
    ∀ (f : Nat) (listed : Array Bool) (a : Act), HeadInv md ops n listed →
      (∀ j oj, ops[j]? = some oj → j ≠ i → listed.getD j true = false → (∀ e ∈ oj.after, Region.binds md e = true → e.on ≠ i) → oi.apart ops oj = true) →
      i ∈ Region.ready md ops listed → YieldsAt P ops w oi v a →
      wpAnyL P md ops w n L f (listed.setIfInBounds i true) (a.put oi.dst v) → wpAnyL P md ops w n L (f + 1) listed a
  | 0, listed, a, inv, _, hr, hy, H => by
    have hu := (mem_ready.1 hr).1
    refine ⟨List.ne_nil_of_mem hr, fun j hj => ?_⟩
    have hjn := ready_head hs ht hn inv hin hu hj
    refine ⟨hjn, ?_⟩
    by_cases hji : j = i
    · subst hji; exact hy.stOp hi H
    · exact absurd (hdone _ _ H j (ready_mono hj hji)) (by omega)
  | f + 1, listed, a, inv, hap, hr, hy, H => by
    have hu := (mem_ready.1 hr).1
    refine ⟨List.ne_nil_of_mem hr, fun j hj => ?_⟩
    have hjn := ready_head hs ht hn inv hin hu hj
    refine ⟨hjn, ?_⟩
    by_cases hji : j = i
    · subst hji; exact hy.stOp hi H
    · obtain ⟨hju, oj, hoj, hall⟩ := mem_ready.1 hj
      have hno : ∀ e ∈ oj.after, Region.binds md e = true → e.on ≠ i := fun e he hb heq => by
        have := hall e he hb
        rw [heq, getD_both hu] at this
        cases this
      have h2 := stOp_put hoj (hap j oj hoj hji hju hno) (fun cs b => hsel i oi cs b hi) (fun cs b => hsel j oj cs b hoj) hy (H.2 j (ready_mono hj hji)).2
      refine stOp_mono (fun a' h3 => head_swap hi hsel hs ht hn hin hdone f (listed.setIfInBounds j true) a' (inv.set hj hjn) ?_ (ready_mono hr (Ne.symm hji)) h3.1 ?_) h2
      · intro k ok hk hki huk hnk
        refine hap k ok hk hki ?_ hnk
        by_cases hjk : j = k
        · subst hjk; exact hju
        · rwa [getD_set_ne true hjk] at huk
      · rw [Array.setIfInBounds_comm _ _ hji]
        exact h3.2
theorem head_lex {n : Nat} {Lq : Act → Prop} (hsel : Region.noSelect ops = true) (hs : Region.sinkB md ops n = true) (ht : waitsTail md ops n = true) (hn : n < ops.size) :
    ∀ (l : List Oper) (k : Nat) (listed : Array Bool) (a : Act), (∀ j, j < l.length → l[j]? = ops[k + j]?) → k + l.length = n → HeadInv md ops n listed →
    headLex md ops n l.length k listed = true → wpStill P ops w Lq l a →
    wpAnyL P md ops w n (fun listed' a' => (listed' = headEnd l.length k listed ∧ ∀ j ∈ Region.ready md ops listed', n ≤ j) ∧ Lq a') l.length listed a
  | [], _, listed, a, _, _, _, hB, h => by
    refine ⟨⟨rfl, fun j hj => ?_⟩, h⟩
    have := List.all_eq_true.1 (show (Region.ready md ops listed).all (fun j => decide (n ≤ j)) = true from hB) j hj
    simpa using this
  | o :: l, k, listed, a, hl, hk, inv, hB, h => by
    have h0 : ops[k]? = some o := by simpa using (hl 0 (by simp)).symm
    simp only [List.length_cons, headLex, Bool.and_eq_true] at hB
    obtain ⟨⟨hr, hf⟩, hB'⟩ := hB
    have hkn : k < n := by simp only [List.length_cons] at hk; omega
    have hr' : k ∈ Region.ready md ops listed := by simpa using hr
    have hst : stOp P ops w k (wpStill P ops w Lq l) a := by unfold stOp; simp only [h0]; exact h
    obtain ⟨v, hy, hK⟩ := yieldsAt_of_stOp h0 hst
    exact head_swap h0 (Region.noSelect_spec hsel) hs ht hn hkn (fun _ _ hL => hL.1.2) l.length listed a inv (Region.free_spec h0 hf) hr' hy
      (head_lex hsel hs ht hn l (k + 1) _ _ (fun j hj => by have := hl (j + 1) (by simp; omega); simpa [Nat.add_assoc, Nat.add_comm 1 j] using this) (by simp only [List.length_cons] at hk; omega) (inv.set hr' hkn) hB' hK)
end
theorem wp_region_head {P : Program} {id : Nat} {Q : Exit → Act → World → Prop} {a : Act} {w : World} {l : List Oper} (n g : Nat) (hg : l.length = n + g) (hm : P.follows .mixedOrders = true) (hB : headB .any l.toArray n = true)
    (h : wpStill P l.toArray w.drew (fun a' => wpAny P .any l.toArray Q g (headEnd n 0 (Array.replicate l.toArray.size false)) a' w.drew) (l.take n) a) : (Code.region id l.toArray true).wp P Q a w := by
  simp only [headB, Bool.and_eq_true, decide_eq_true_eq] at hB
  obtain ⟨⟨⟨⟨hsel, hn⟩, hs⟩, ht⟩, hlex⟩ := hB
  have hn' : n < l.length := by simpa using hn
  have htl : (l.take n).length = n := by simp; omega
  have inv0 : HeadInv .any l.toArray n (Array.replicate l.toArray.size false) :=
    ⟨by simp, fun j oj _ hl => (by rw [getD_replicate_false] at hl; cases hl), fun t _ ht => getD_in (by simpa using ht) (getD_replicate_false _ _)⟩
  have H := head_lex (md := .any) hsel hs ht hn (l.take n) 0 _ a (fun j hj => by
    have hj' : j < n := by rw [htl] at hj; exact hj
    simp [hj']) (by simpa using htl) inv0 (by rw [htl]; exact hlex) h
  refine wp_region_any hm ?_
  have H2 := wpAny_of_head (Q' := Q) (g := g) (fun listed a' hL => by
    obtain ⟨⟨rfl, _⟩, h3⟩ := hL
    rw [htl]
    exact h3) _ _ _ H
  rw [htl, show n + g = l.toArray.size by simp; omega] at H2
  exact H2
end Go.Proofs.Ytjanofopmmndoaa

namespace Go.Proofs.Ytjanofopmmndoaa
open Go
section
variable {P : Program} {ops : Array Oper} {md : Region.Mode} {w wA : World}
/-- Each operation behind n but A waits for one of those from n on, A not meant. -/
def waitsTailA (md : Region.Mode) (ops : Array Oper) (n A : Nat) : Bool :=
  (List.range ops.size).all fun t => decide (t ≤ n) || t == A || (List.range t).any fun j => decide (n ≤ j) && !(j == A) && Region.waitsFor md ops t j
structure FInv (md : Region.Mode) (ops : Array Oper) (n A : Nat) (listed : Array Bool) : Prop where
  size : listed.size = ops.size
  closed : ∀ j oj, ops[j]? = some oj → listed.getD j false = true → ∀ e ∈ oj.after, Region.binds md e = true → listed.getD e.on false = true
  tail : ∀ t, n ≤ t → t < ops.size → t ≠ A → listed.getD t true = false
theorem FInv.set {n A i : Nat} {listed : Array Bool} (inv : FInv md ops n A listed) (hi : i ∈ Region.ready md ops listed) (hin : i < n ∨ i = A) : FInv md ops n A (listed.setIfInBounds i true) := by
  obtain ⟨_, oi, hoi, hall⟩ := mem_ready.1 hi
  refine ⟨by simp [inv.size], fun j oj hj hl e he hb => ?_, fun t ht ht' hA => by rw [getD_set_ne true (by omega)]; exact inv.tail t ht ht' hA⟩
  by_cases hij : i = j
  · subst hij
    cases hj.symm.trans hoi
    exact getD_set_true (hall e he hb)
  · rw [getD_set_ne false hij] at hl
    exact getD_set_true (inv.closed j oj hj hl e he hb)
theorem fhead_waits {n A : Nat} {listed : Array Bool} (hs : Region.sinkB md ops n = true) (inv : FInv md ops n A listed) (hn : n < ops.size) :
    ∀ (d i : Nat), n - i = d → i < n → listed.getD i true = false → n ∉ Region.ready md ops listed := by
  intro d
  induction d using Nat.strongRecOn with
  | _ d ih =>
    intro i hd hi hu
    obtain ⟨j, hj, hj2⟩ := List.any_eq_true.1 (List.all_eq_true.1 hs i (List.mem_range.2 hi))
    simp only [Bool.and_eq_true, decide_eq_true_eq] at hj2
    have hjle := List.mem_range.1 hj
    by_cases hjn : j = n
    · subst hjn
      exact not_ready_of hj2.2 hu
    · refine ih (n - j) (by omega) j rfl (by omega) ?_
      obtain ⟨o, ho, e, he, hb, hon⟩ := Region.waitsFor_spec hj2.2
      refine getD_in (by rw [inv.size]; omega) ?_
      cases hl : listed.getD j false with
      | false => rfl
      | true =>
        have h2 := inv.closed j o ho hl e he hb
        rw [hon, getD_both hu] at h2
        cases h2
theorem fready {n A i j : Nat} {listed : Array Bool} (hs : Region.sinkB md ops n = true) (ht : waitsTailA md ops n A = true) (hn : n < ops.size) (inv : FInv md ops n A listed) (hi : i < n) (hu : listed.getD i true = false)
    (hj : j ∈ Region.ready md ops listed) : j < n ∨ j = A := by
  rcases Nat.lt_or_ge j n with h | h
  · exact .inl h
  · by_cases hjA : j = A
    · exact .inr hjA
    · exfalso
      by_cases hjn : j = n
      · subst hjn
        exact fhead_waits hs inv hn _ i rfl hi hu hj
      · obtain ⟨_, o, ho, _⟩ := mem_ready.1 hj
        have hlt : j < ops.size := (Array.getElem?_eq_some_iff.1 ho).1
        have h1 := List.all_eq_true.1 ht j (List.mem_range.2 hlt)
        simp only [Bool.or_eq_true, decide_eq_true_eq, beq_iff_eq] at h1
        rcases h1 with (h1 | h1) | h1
        · omega
        · exact hjA h1
        · obtain ⟨m, hm, hm2⟩ := List.any_eq_true.1 h1
          simp only [Bool.and_eq_true, decide_eq_true_eq, Bool.not_eq_true', beq_eq_false_iff_ne] at hm2
          have := List.mem_range.1 hm
          exact not_ready_of hm2.2 (inv.tail m hm2.1.1 (by omega) hm2.1.2) hj
theorem freadyE {n A i j : Nat} {listed : Array Bool} (hs : Region.sinkB md ops n = true) (ht : waitsTailA md ops n A = true) (hn : n < ops.size) (inv : FInv md ops n A listed) (hA : listed.getD A true = true) (hi : i < n) (hu : listed.getD i true = false)
    (hj : j ∈ Region.ready md ops listed) : j < n := by
  rcases fready hs ht hn inv hi hu hj with h | h
  · exact h
  · subst h
    rw [(mem_ready.1 hj).1] at hA
    cases hA
def Apart (md : Region.Mode) (ops : Array Oper) (oi : Oper) (i : Nat) (listed : Array Bool) : Prop :=
  ∀ j oj, ops[j]? = some oj → j ≠ i → listed.getD j true = false → (∀ e ∈ oj.after, Region.binds md e = true → e.on ≠ i) → oi.apart ops oj = true
theorem Apart.set {oi : Oper} {i j : Nat} {listed : Array Bool} (h : Apart md ops oi i listed) (hju : listed.getD j true = false) : Apart md ops oi i (listed.setIfInBounds j true) := by
  intro k ok hk hki huk hnk
  refine h k ok hk hki ?_ hnk
  by_cases hjk : j = k
  · subst hjk; exact hju
  · rwa [getD_set_ne true hjk] at huk
theorem no_wait {i : Nat} {oj : Oper} {listed : Array Bool} (hu : listed.getD i true = false) (hall : ∀ e ∈ oj.after, Region.binds md e = true → listed.getD e.on false = true) : ∀ e ∈ oj.after, Region.binds md e = true → e.on ≠ i := fun e he hb heq => by
  have := hall e he hb
  rw [heq, getD_both hu] at this
  cases this
theorem yields_put {oi oj : Oper} {v u : Value} {a : Act} (hsi : ∀ cs b, oi.op ≠ .select cs b) (hap : oi.apart ops oj = true) (hy : YieldsAt P ops w oi v a) : YieldsAt P ops w oi v (a.put oj.dst u) := by
  obtain ⟨_, _, h3⟩ := Oper.apart_spec hap
  exact hy.of_same (execOp_put oi hsi a oj.dst u h3) (wanted_put oi a oj.dst u h3)
theorem yields_back {oi oj : Oper} {v u : Value} {a : Act} (hsj : ∀ cs b, oj.op ≠ .select cs b) (hap : oi.apart ops oj = true) (hy : YieldsAt P ops w oj u (a.put oi.dst v)) : YieldsAt P ops w oj u a := by
  obtain ⟨h1, _, _⟩ := Oper.apart_spec hap
  exact hy.of_same (execOp_put oj hsj a oi.dst v h1).symm (wanted_put oj a oi.dst v h1).symm
/-- Behind A: what may come first may come whenever. -/
theorem swapE {n A i : Nat} {oi : Oper} {v : Value} {L : Array Bool → Act → Prop} (hi : ops[i]? = some oi) (hsel : ∀ (j : Nat) (o : Oper) cs b, ops[j]? = some o → o.op ≠ .select cs b)
    (hs : Region.sinkB md ops n = true) (ht : waitsTailA md ops n A = true) (hn : n < ops.size) (hin : i < n)
    (hdone : ∀ listed a, L listed a → ∀ j ∈ Region.ready md ops listed, n ≤ j) :
    ∀ (f : Nat) (listed : Array Bool) (a : Act), FInv md ops n A listed → listed.getD A true = true → Apart md ops oi i listed →
      i ∈ Region.ready md ops listed → YieldsAt P ops w oi v a →
      wpAnyL P md ops w n L f (listed.setIfInBounds i true) (a.put oi.dst v) → wpAnyL P md ops w n L (f + 1) listed a
  | 0, listed, a, inv, hA, _, hr, hy, H => by
    have hu := (mem_ready.1 hr).1
    refine ⟨List.ne_nil_of_mem hr, fun j hj => ?_⟩
    have hjn := freadyE hs ht hn inv hA hin hu hj
    refine ⟨hjn, ?_⟩
    by_cases hji : j = i
    · subst hji; exact hy.stOp hi H
    · exact absurd (hdone _ _ H j (ready_mono hj hji)) (by omega)
  | f + 1, listed, a, inv, hA, hap, hr, hy, H => by
    have hu := (mem_ready.1 hr).1
    refine ⟨List.ne_nil_of_mem hr, fun j hj => ?_⟩
    have hjn := freadyE hs ht hn inv hA hin hu hj
    refine ⟨hjn, ?_⟩
    by_cases hji : j = i
    · subst hji; exact hy.stOp hi H
    · obtain ⟨hju, oj, hoj, hall⟩ := mem_ready.1 hj
      have hap2 := hap j oj hoj hji hju (no_wait hu hall)
      obtain ⟨u, hyj, hK⟩ := yieldsAt_of_stOp hoj (H.2 j (ready_mono hj hji)).2
      refine (yields_back (fun cs b => hsel j oj cs b hoj) hap2 hyj).stOp hoj ?_
      refine swapE hi hsel hs ht hn hin hdone f (listed.setIfInBounds j true) (a.put oj.dst u) (inv.set hj (.inl hjn)) ?_ (hap.set hju) (ready_mono hr (Ne.symm hji)) (yields_put (fun cs b => hsel i oi cs b hi) hap2 hy) ?_
      · by_cases hjA : j = A
        · subst hjA; rw [hju] at hA; cases hA
        · rw [getD_set_ne true hjA]; exact hA
      · rw [Array.setIfInBounds_comm _ _ hji, ← Act.put_comm a v u (Oper.apart_spec hap2).2.1]
        exact hK
def wpD (P : Program) (md : Region.Mode) (ops : Array Oper) (w wA : World) (n A : Nat) (dA : Option Tmp) (p : Value) (L0 L1 : Array Bool → Act → Prop) : Nat → Array Bool → Act → Prop
  | 0, listed, a => L0 listed a
  | f + 1, listed, a => Region.ready md ops listed ≠ [] ∧ ∀ i ∈ Region.ready md ops listed,
      (i < n ∧ stOp P ops w i (wpD P md ops w wA n A dA p L0 L1 f (listed.setIfInBounds i true)) a) ∨ (i = A ∧ wpAnyL P md ops wA n L1 (f + 1) (listed.setIfInBounds A true) (a.put dA p))
theorem wpD_E {n A : Nat} {dA : Option Tmp} {p : Value} {L0 L1 : Array Bool → Act → Prop} (hAn : n ≤ A) (h01 : ∀ listed a, L0 listed a → L1 (listed.setIfInBounds A true) (a.put dA p)) :
    ∀ (f : Nat) (listed : Array Bool) (a : Act), A ∈ Region.ready md ops listed → wpD P md ops w wA n A dA p L0 L1 f listed a → wpAnyL P md ops wA n L1 f (listed.setIfInBounds A true) (a.put dA p)
  | 0, _, _, _, h => h01 _ _ h
  | _ + 1, _, _, hr, h => by
    rcases h.2 A hr with ⟨h1, _⟩ | ⟨_, h2⟩
    · omega
    · exact h2
theorem swapD {n A i : Nat} {oi oA : Oper} {v p : Value} {L0 L1 : Array Bool → Act → Prop} (hi : ops[i]? = some oi) (hoA : ops[A]? = some oA) (haft : oA.after = #[]) (hsel : ∀ (j : Nat) (o : Oper) cs b, ops[j]? = some o → o.op ≠ .select cs b)
    (hs : Region.sinkB md ops n = true) (ht : waitsTailA md ops n A = true) (hn : n < ops.size) (hin : i < n) (hAn : n < A)
    (h01 : ∀ listed a, L0 listed a → L1 (listed.setIfInBounds A true) (a.put oA.dst p))
    (hd0 : ∀ listed a, L0 listed a → ∀ j ∈ Region.ready md ops listed, n ≤ j) (hd1 : ∀ listed a, L1 listed a → ∀ j ∈ Region.ready md ops listed, n ≤ j) :
    ∀ (f : Nat) (listed : Array Bool) (a : Act), FInv md ops n A listed → listed.getD A true = false → Apart md ops oi i listed →
      i ∈ Region.ready md ops listed → YieldsAt P ops w oi v a → YieldsAt P ops wA oi v a →
      wpD P md ops w wA n A oA.dst p L0 L1 f (listed.setIfInBounds i true) (a.put oi.dst v) → wpD P md ops w wA n A oA.dst p L0 L1 (f + 1) listed a := by
  intro f
  induction f with
  | zero =>
    intro listed a inv hA hap hr hy hyA H
    have hu := (mem_ready.1 hr).1
    have hAi : A ≠ i := by omega
    have hrA : A ∈ Region.ready md ops listed := mem_ready.2 ⟨hA, oA, hoA, by rw [haft]; simp⟩
    have hapA : oi.apart ops oA = true := hap A oA hoA hAi hA (by rw [haft]; simp)
    refine ⟨List.ne_nil_of_mem hr, fun j hj => ?_⟩
    rcases fready hs ht hn inv hin hu hj with hjn | rfl
    · refine .inl ⟨hjn, ?_⟩
      by_cases hji : j = i
      · subst hji; exact hy.stOp hi H
      · exact absurd (hd0 _ _ H j (ready_mono hj hji)) (by omega)
    · refine .inr ⟨rfl, ?_⟩
      refine swapE hi hsel hs ht hn hin hd1 0 _ _ (inv.set hrA (.inr rfl)) ?_ (hap.set hA) (ready_mono hr (Ne.symm hAi)) (yields_put (fun cs b => hsel i oi cs b hi) hapA hyA) ?_
      · have hsz : j < listed.size := by rw [inv.size]; exact (Array.getElem?_eq_some_iff.1 hoA).1
        simp [hsz]
      · have := wpD_E (Nat.le_of_lt hAn) h01 0 _ _ (ready_mono hrA hAi) H
        rwa [Array.setIfInBounds_comm _ _ (Ne.symm hAi), Act.put_comm a v p (Oper.apart_spec hapA).2.1] at this
  | succ f ih =>
    intro listed a inv hA hap hr hy hyA H
    have hu := (mem_ready.1 hr).1
    have hAi : A ≠ i := by omega
    have hrA : A ∈ Region.ready md ops listed := mem_ready.2 ⟨hA, oA, hoA, by rw [haft]; simp⟩
    have hapA : oi.apart ops oA = true := hap A oA hoA hAi hA (by rw [haft]; simp)
    refine ⟨List.ne_nil_of_mem hr, fun j hj => ?_⟩
    rcases fready hs ht hn inv hin hu hj with hjn | rfl
    · refine .inl ⟨hjn, ?_⟩
      by_cases hji : j = i
      · subst hji; exact hy.stOp hi H
      · obtain ⟨hju, oj, hoj, hall⟩ := mem_ready.1 hj
        have hap2 := hap j oj hoj hji hju (no_wait hu hall)
        rcases H.2 j (ready_mono hj hji) with ⟨_, hst⟩ | ⟨rfl, _⟩
        · obtain ⟨u, hyj, hK⟩ := yieldsAt_of_stOp hoj hst
          refine (yields_back (fun cs b => hsel j oj cs b hoj) hap2 hyj).stOp hoj ?_
          refine ih (listed.setIfInBounds j true) (a.put oj.dst u) (inv.set hj (.inl hjn)) (by rw [getD_set_ne true (by omega)]; exact hA) (hap.set hju) (ready_mono hr (Ne.symm hji)) (yields_put (fun cs b => hsel i oi cs b hi) hap2 hy) (yields_put (fun cs b => hsel i oi cs b hi) hap2 hyA) ?_
          rw [Array.setIfInBounds_comm _ _ hji, ← Act.put_comm a v u (Oper.apart_spec hap2).2.1]
          exact hK
        · omega
    · refine .inr ⟨rfl, ?_⟩
      refine swapE hi hsel hs ht hn hin hd1 (f + 1) _ _ (inv.set hrA (.inr rfl)) ?_ (hap.set hA) (ready_mono hr (Ne.symm hAi)) (yields_put (fun cs b => hsel i oi cs b hi) hapA hyA) ?_
      · have hsz : j < listed.size := by rw [inv.size]; exact (Array.getElem?_eq_some_iff.1 hoA).1
        simp [hsz]
      · have := wpD_E (Nat.le_of_lt hAn) h01 (f + 1) _ _ (ready_mono hrA hAi) H
        rwa [Array.setIfInBounds_comm _ _ (Ne.symm hAi), Act.put_comm a v p (Oper.apart_spec hapA).2.1] at this
/-- The head, read in both worlds with one outcome. -/
def still2 (P : Program) (ops : Array Oper) (w wA : World) (K : Act → Prop) : List Oper → Act → Prop
  | [], a => K a
  | o :: l, a => ∃ v, YieldsAt P ops w o v a ∧ YieldsAt P ops wA o v a ∧ still2 P ops w wA K l (a.put o.dst v)
theorem still2_step {K : Act → Prop} {o : Oper} {l : List Oper} {a : Act} {v : Value} (hg : o.guard = none) (h1 : (execOp a.eval o).run P w = .ok (.value v) w) (h2 : (execOp a.eval o).run P wA = .ok (.value v) wA)
    (h : still2 P ops w wA K l (a.put o.dst v)) : still2 P ops w wA K (o :: l) a :=
  ⟨v, .inl ⟨by simp [Region.wanted, hg], .inl h1⟩, .inl ⟨by simp [Region.wanted, hg], .inl h2⟩, h⟩
theorem still2_next {K0 : Act → Prop} {o : Oper} {l : List Oper} {a : Act} (hg : o.guard = none)
    (h : ∀ K : Act → Prop, (∀ a', still2 P ops w wA K0 l a' → K a') → ∃ v, (execOp a.eval o).run P w = .ok (.value v) w ∧ (execOp a.eval o).run P wA = .ok (.value v) wA ∧ K (a.put o.dst v)) : still2 P ops w wA K0 (o :: l) a := by
  obtain ⟨v, h1, h2, h3⟩ := h _ (fun _ h => h)
  exact still2_step hg h1 h2 h3
def headLexA (md : Region.Mode) (ops : Array Oper) (n A : Nat) : Nat → Nat → Array Bool → Bool
  | 0, _, listed => decide (Region.ready md ops listed = [n, A]) && (Region.ready md ops (listed.setIfInBounds A true)).all fun j => decide (n ≤ j)
  | f + 1, k, listed => (Region.ready md ops listed).contains k && Region.free md ops listed k && headLexA md ops n A f (k + 1) (listed.setIfInBounds k true)
theorem lexD {n A : Nat} {oA : Oper} {p : Value} {T0 : Act → Prop} {T1 : Act → Prop} (hoA : ops[A]? = some oA) (haft : oA.after = #[]) (hsel : Region.noSelect ops = true) (hs : Region.sinkB md ops n = true) (ht : waitsTailA md ops n A = true) (hn : n < ops.size) (hAn : n < A) (E : Array Bool) :
    ∀ (l : List Oper) (k : Nat) (listed : Array Bool) (a : Act), (∀ j, j < l.length → l[j]? = ops[k + j]?) → k + l.length = n → FInv md ops n A listed → listed.getD A true = false → headEnd l.length k listed = E →
    headLexA md ops n A l.length k listed = true → still2 P ops w wA (fun a' => T0 a' ∧ T1 (a'.put oA.dst p)) l a →
    wpD P md ops w wA n A oA.dst p (fun listed' a' => (listed' = E ∧ Region.ready md ops E = [n, A] ∧ ∀ j ∈ Region.ready md ops (E.setIfInBounds A true), n ≤ j) ∧ T0 a' ∧ T1 (a'.put oA.dst p))
      (fun listed' a' => (listed' = E.setIfInBounds A true ∧ ∀ j ∈ Region.ready md ops listed', n ≤ j) ∧ T1 a') l.length listed a
  | [], _, listed, a, _, _, _, _, hE, hB, h => by
    simp only [List.length_nil, headLexA, Bool.and_eq_true, decide_eq_true_eq] at hB
    simp only [List.length_nil, headEnd] at hE
    subst hE
    exact ⟨⟨rfl, hB.1, fun j hj => by simpa using List.all_eq_true.1 hB.2 j hj⟩, h⟩
  | o :: l, k, listed, a, hl, hk, inv, hA, hE, hB, h => by
    have h0 : ops[k]? = some o := by simpa using (hl 0 (by simp)).symm
    simp only [List.length_cons, headLexA, Bool.and_eq_true] at hB
    obtain ⟨⟨hr, hf⟩, hB'⟩ := hB
    have hkn : k < n := by simp only [List.length_cons] at hk; omega
    have hr' : k ∈ Region.ready md ops listed := by simpa using hr
    obtain ⟨v, hy, hyA, hK⟩ := h
    exact swapD h0 hoA haft (Region.noSelect_spec hsel) hs ht hn hkn hAn (fun listed' a' hL => by obtain ⟨⟨rfl, _, h3⟩, _, h5⟩ := hL; exact ⟨⟨rfl, h3⟩, h5⟩)
      (fun listed' a' hL j hj => by obtain ⟨⟨rfl, h2, _⟩, _⟩ := hL; rw [h2] at hj; simp at hj; omega) (fun _ _ hL => hL.1.2) l.length listed a inv hA (Region.free_spec h0 hf) hr' hy hyA
      (lexD hoA haft hsel hs ht hn hAn E l (k + 1) _ _ (fun j hj => by have := hl (j + 1) (by simp; omega); simpa [Nat.add_assoc, Nat.add_comm 1 j] using this) (by simp only [List.length_cons] at hk; omega) (inv.set hr' (.inl hkn)) (by rw [getD_set_ne true (by omega)]; exact hA) hE hB' hK)
theorem wpAny_of_D {n A g : Nat} {dA : Option Tmp} {p : Value} {L0 L1 : Array Bool → Act → Prop} {Q : Exit → Act → World → Prop} (hA : ∀ (K : Act → World → Prop) a, K (a.put dA p) wA → wpOp P ops Q A K a w)
    (h0 : ∀ listed a, L0 listed a → wpAny P md ops Q (g + 1) listed a w) (h1 : ∀ listed a, L1 listed a → wpAny P md ops Q g listed a wA) :
    ∀ (f : Nat) (listed : Array Bool) (a : Act), wpD P md ops w wA n A dA p L0 L1 f listed a → wpAny P md ops Q (f + (g + 1)) listed a w
  | 0, listed, a, h => by rw [Nat.zero_add]; exact h0 _ _ h
  | f + 1, listed, a, h => by
    rw [show f + 1 + (g + 1) = (f + (g + 1)) + 1 by omega]
    refine ⟨fun h' => absurd h' h.1, fun i hi => ?_⟩
    rcases h.2 i hi with ⟨_, hst⟩ | ⟨rfl, hE⟩
    · exact wpOp_of_stOp (fun a' h' => wpAny_of_D hA h0 h1 f _ a' h') hst
    · refine hA _ _ ?_
      rw [show f + (g + 1) = f + 1 + g by omega]
      exact wpAny_of_head h1 _ _ _ hE
end
def headAB (md : Region.Mode) (ops : Array Oper) (n A : Nat) : Bool :=
  Region.noSelect ops && decide (n < ops.size) && decide (n < A) && decide (A < ops.size) && Region.sinkB md ops n && waitsTailA md ops n A && headLexA md ops n A n 0 (Array.replicate ops.size false)
theorem wp_region_head_alloc {P : Program} {id : Nat} {Q : Exit → Act → World → Prop} {a : Act} {w wA : World} {l : List Oper} {oA : Oper} {p : Value} (n g A : Nat) (hg : l.length = n + (g + 1)) (hm : P.follows .mixedOrders = true) (hB : headAB .any l.toArray n A = true)
    (hoA : l.toArray[A]? = some oA) (haft : oA.after = #[]) (hA : ∀ (K : Act → World → Prop) a, K (a.put oA.dst p) wA → wpOp P l.toArray Q A K a w.drew)
    (h : still2 P l.toArray w.drew wA (fun a' => AllReady P .any l.toArray Q g (headEnd n 0 (Array.replicate l.toArray.size false)) a' w.drew [n] ∧
      wpAny P .any l.toArray Q g ((headEnd n 0 (Array.replicate l.toArray.size false)).setIfInBounds A true) (a'.put oA.dst p) wA) (l.take n) a) : (Code.region id l.toArray true).wp P Q a w := by
  simp only [headAB, Bool.and_eq_true, decide_eq_true_eq] at hB
  obtain ⟨⟨⟨⟨⟨⟨hsel, hn⟩, hAn⟩, hAs⟩, hs⟩, ht⟩, hlex⟩ := hB
  have hn' : n < l.length := by simpa using hn
  have htl : (l.take n).length = n := by simp; omega
  have inv0 : FInv .any l.toArray n A (Array.replicate l.toArray.size false) :=
    ⟨by simp, fun j oj _ hl => (by rw [getD_replicate_false] at hl; cases hl), fun t _ ht _ => getD_in (by simpa using ht) (getD_replicate_false _ _)⟩
  have H := lexD (md := .any) (T0 := fun a' => AllReady P .any l.toArray Q g (headEnd n 0 (Array.replicate l.toArray.size false)) a' w.drew [n]) (T1 := fun a' => wpAny P .any l.toArray Q g ((headEnd n 0 (Array.replicate l.toArray.size false)).setIfInBounds A true) a' wA) (p := p) hoA haft hsel hs ht hn hAn (headEnd n 0 (Array.replicate l.toArray.size false)) (l.take n) 0 _ a (fun j hj => by
    have hj' : j < n := by rw [htl] at hj; exact hj
    simp [hj']) (by simpa using htl) inv0 (getD_in (by simpa using hAs) (getD_replicate_false _ _)) (by rw [htl]) (by rw [htl]; exact hlex) h
  refine wp_region_any hm ?_
  have H2 := wpAny_of_D (Q := Q) (g := g) hA (fun listed a' hL => by
    obtain ⟨⟨rfl, h2, _⟩, h3, h4⟩ := hL
    refine wpAny_ready h2 (by simp) ?_
    intro i hi
    rcases List.mem_cons.1 hi with rfl | hi
    · exact h3 i (by simp)
    · have : i = A := by simpa using hi
      subst this
      exact hA _ _ h4) (fun listed a' hL => by
    obtain ⟨⟨rfl, _⟩, h3⟩ := hL
    exact h3) _ _ _ H
  rw [htl, show n + (g + 1) = l.toArray.size by simp; omega] at H2
  exact H2
end Go.Proofs.Ytjanofopmmndoaa

