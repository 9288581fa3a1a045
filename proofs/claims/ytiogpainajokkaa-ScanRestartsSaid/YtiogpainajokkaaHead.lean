/- A region that draws its order, whose head only reads: the head is walked in the order of its text; what stands behind it is left as it is: all its orders. -/
import Derived.StillTail
import Derived.KernelRfl
namespace Go.Proofs.Ytiogpainajokkaa
open Go
section
variable {P : Program} {ops : Array Oper} {md : Region.Mode} {w : World}
/-- Each operation behind n waits for one of those from n on. -/
def waitsTail (md : Region.Mode) (ops : Array Oper) (n : Nat) : Bool :=
  (List.range ops.size).all fun t => decide (t ≤ n) || (List.range t).any fun j => decide (n ≤ j) && Region.waitsFor md ops t j
def headEnd : Nat → Nat → Array Bool → Array Bool
  | 0, _, listed => listed
  | f + 1, k, listed => headEnd f (k + 1) (listed.setIfInBounds k true)
def headLex (md : Region.Mode) (ops : Array Oper) (n : Nat) : Nat → Nat → Array Bool → Bool
  | 0, _, listed => (Region.ready md ops listed).all fun j => decide (n ≤ j)
  | f + 1, k, listed => (Region.ready md ops listed).contains k && Region.free md ops listed k && headLex md ops n f (k + 1) (listed.setIfInBounds k true)
def headB (md : Region.Mode) (ops : Array Oper) (n : Nat) : Bool :=
  Region.noSelect ops && decide (n < ops.size) && Region.sinkB md ops n && waitsTail md ops n && headLex md ops n n 0 (Array.replicate ops.size false)
theorem not_ready_of {t j : Nat} {listed : Array Bool} (hw : Region.waitsFor md ops t j = true) (hu : listed.getD j true = false) : t ∉ Region.ready md ops listed := fun hr => by
  obtain ⟨_, o, ho, hall⟩ := mem_ready.1 hr
  obtain ⟨o', ho', e, he, hb, hon⟩ := Region.waitsFor_spec hw
  cases ho.symm.trans ho'
  have := hall e he hb
  rw [hon, getD_both hu] at this
  cases this
theorem head_waits {n : Nat} {listed : Array Bool} (hs : Region.sinkB md ops n = true) (inv : HeadInv md ops n listed) (hn : n < ops.size) :
    ∀ (d i : Nat), n - i = d → i < n → listed.getD i true = false → n ∉ Region.ready md ops listed := by
  intro d
  induction d using Nat.strongRecOn with
  | _ d ih =>
    intro i hd hi hu
    obtain ⟨j, hj, hj2⟩ := List.any_eq_true.1 (List.all_eq_true.1 hs i (List.mem_range.2 hi))
    simp only [Bool.and_eq_true, decide_eq_true_eq] at hj2
    have hjle := List.mem_range.1 hj
    by_cases hjn : j = n
    · subst hjn
      exact not_ready_of hj2.2 hu
    · refine ih (n - j) (by omega) j rfl (by omega) ?_
      obtain ⟨o, ho, e, he, hb, hon⟩ := Region.waitsFor_spec hj2.2
      refine getD_in (by rw [inv.size]; omega) ?_
      cases hl : listed.getD j false with
      | false => rfl
      | true =>
        have h2 := inv.closed j o ho hl e he hb
        rw [hon, getD_both hu] at h2
        cases h2
theorem ready_head {n i j : Nat} {listed : Array Bool} (hs : Region.sinkB md ops n = true) (ht : waitsTail md ops n = true) (hn : n < ops.size) (inv : HeadInv md ops n listed) (hi : i < n) (hu : listed.getD i true = false)
    (hj : j ∈ Region.ready md ops listed) : j < n := by
  rcases Nat.lt_or_ge j n with h | h
  · exact h
  · exfalso
    by_cases hjn : j = n
    · subst hjn
      exact head_waits hs inv hn _ i rfl hi hu hj
    · obtain ⟨_, o, ho, _⟩ := mem_ready.1 hj
      have hlt : j < ops.size := (Array.getElem?_eq_some_iff.1 ho).1
      have h1 := List.all_eq_true.1 ht j (List.mem_range.2 hlt)
      simp only [Bool.or_eq_true, decide_eq_true_eq] at h1
      rcases h1 with h1 | h1
      · omega
      · obtain ⟨m, hm, hm2⟩ := List.any_eq_true.1 h1
        simp only [Bool.and_eq_true, decide_eq_true_eq] at hm2
        have := List.mem_range.1 hm
        exact not_ready_of hm2.2 (inv.tail m hm2.1 (by omega)) hj
/-- What may come first may come whenever. -/
theorem head_swap {n i : Nat} {oi : Oper} {v : Value} {L : Array Bool → Act → Prop} (hi : ops[i]? = some oi) (hsel : ∀ (j : Nat) (o : Oper) cs b, ops[j]? = some o → o.op ≠ .select cs b)
    (hs : Region.sinkB md ops n = true) (ht : waitsTail md ops n = true) (hn : n < ops.size) (hin : i < n)
    (hdone : ∀ listed a, L listed a → ∀ j ∈ Region.ready md ops listed, n ≤ j) :
    ∀ (f : Nat) (listed : Array Bool) (a : Act), HeadInv md ops n listed →
      (∀ j oj, ops[j]? = some oj → j ≠ i → listed.getD j true = false → (∀ e ∈ oj.after, Region.binds md e = true → e.on ≠ i) → oi.apart ops oj = true) →
      i ∈ Region.ready md ops listed → YieldsAt P ops w oi v a →
      wpAnyL P md ops w n L f (listed.setIfInBounds i true) (a.put oi.dst v) → wpAnyL P md ops w n L (f + 1) listed a
  | 0, listed, a, inv, _, hr, hy, H => by
    have hu := (mem_ready.1 hr).1
    refine ⟨List.ne_nil_of_mem hr, fun j hj => ?_⟩
    have hjn := ready_head hs ht hn inv hin hu hj
    refine ⟨hjn, ?_⟩
    by_cases hji : j = i
    · subst hji; exact hy.stOp hi H
    · exact absurd (hdone _ _ H j (ready_mono hj hji)) (by omega)
  | f + 1, listed, a, inv, hap, hr, hy, H => by
    have hu := (mem_ready.1 hr).1
    refine ⟨List.ne_nil_of_mem hr, fun j hj => ?_⟩
    have hjn := ready_head hs ht hn inv hin hu hj
    refine ⟨hjn, ?_⟩
    by_cases hji : j = i
    · subst hji; exact hy.stOp hi H
    · obtain ⟨hju, oj, hoj, hall⟩ := mem_ready.1 hj
      have hno : ∀ e ∈ oj.after, Region.binds md e = true → e.on ≠ i := fun e he hb heq => by
        have := hall e he hb
        rw [heq, getD_both hu] at this
        cases this
      have h2 := stOp_put hoj (hap j oj hoj hji hju hno) (fun cs b => hsel i oi cs b hi) (fun cs b => hsel j oj cs b hoj) hy (H.2 j (ready_mono hj hji)).2
      refine stOp_mono (fun a' h3 => head_swap hi hsel hs ht hn hin hdone f (listed.setIfInBounds j true) a' (inv.set hj hjn) ?_ (ready_mono hr (Ne.symm hji)) h3.1 ?_) h2
      · intro k ok hk hki huk hnk
        refine hap k ok hk hki ?_ hnk
        by_cases hjk : j = k
        · subst hjk; exact hju
        · rwa [getD_set_ne true hjk] at huk
      · rw [Array.setIfInBounds_comm _ _ hji]
        exact h3.2
theorem head_lex {n : Nat} {Lq : Act → Prop} (hsel : Region.noSelect ops = true) (hs : Region.sinkB md ops n = true) (ht : waitsTail md ops n = true) (hn : n < ops.size) :
    ∀ (l : List Oper) (k : Nat) (listed : Array Bool) (a : Act), (∀ j, j < l.length → l[j]? = ops[k + j]?) → k + l.length = n → HeadInv md ops n listed →
    headLex md ops n l.length k listed = true → wpStill P ops w Lq l a →
    wpAnyL P md ops w n (fun listed' a' => (listed' = headEnd l.length k listed ∧ ∀ j ∈ Region.ready md ops listed', n ≤ j) ∧ Lq a') l.length listed a
  | [], _, listed, a, _, _, _, hB, h => by
    refine ⟨⟨rfl, fun j hj => ?_⟩, h⟩
    have := List.all_eq_true.1 (show (Region.ready md ops listed).all (fun j => decide (n ≤ j)) = true from hB) j hj
    simpa using this
  | o :: l, k, listed, a, hl, hk, inv, hB, h => by
    have h0 : ops[k]? = some o := by simpa using (hl 0 (by simp)).symm
    simp only [List.length_cons, headLex, Bool.and_eq_true] at hB
    obtain ⟨⟨hr, hf⟩, hB'⟩ := hB
    have hkn : k < n := by simp only [List.length_cons] at hk; omega
    have hr' : k ∈ Region.ready md ops listed := by simpa using hr
    have hst : stOp P ops w k (wpStill P ops w Lq l) a := by unfold stOp; simp only [h0]; exact h
    obtain ⟨v, hy, hK⟩ := yieldsAt_of_stOp h0 hst
    exact head_swap h0 (Region.noSelect_spec hsel) hs ht hn hkn (fun _ _ hL => hL.1.2) l.length listed a inv (Region.free_spec h0 hf) hr' hy
      (head_lex hsel hs ht hn l (k + 1) _ _ (fun j hj => by have := hl (j + 1) (by simp; omega); simpa [Nat.add_assoc, Nat.add_comm 1 j] using this) (by simp only [List.length_cons] at hk; omega) (inv.set hr' hkn) hB' hK)
end
theorem wp_region_head {P : Program} {id : Nat} {Q : Exit → Act → World → Prop} {a : Act} {w : World} {l : List Oper} (n g : Nat) (hg : l.length = n + g) (hm : P.follows .mixedOrders = true) (hB : headB .any l.toArray n = true)
    (h : wpStill P l.toArray w.drew (fun a' => wpAny P .any l.toArray Q g (headEnd n 0 (Array.replicate l.toArray.size false)) a' w.drew) (l.take n) a) : (Code.region id l.toArray true).wp P Q a w := by
  simp only [headB, Bool.and_eq_true, decide_eq_true_eq] at hB
  obtain ⟨⟨⟨⟨hsel, hn⟩, hs⟩, ht⟩, hlex⟩ := hB
  have hn' : n < l.length := by simpa using hn
  have htl : (l.take n).length = n := by simp; omega
  have inv0 : HeadInv .any l.toArray n (Array.replicate l.toArray.size false) :=
    ⟨by simp, fun j oj _ hl => (by rw [getD_replicate_false] at hl; cases hl), fun t _ ht => getD_in (by simpa using ht) (getD_replicate_false _ _)⟩
  have H := head_lex (md := .any) hsel hs ht hn (l.take n) 0 _ a (fun j hj => by
    have hj' : j < n := by rw [htl] at hj; exact hj
    simp [hj']) (by simpa using htl) inv0 (by rw [htl]; exact hlex) h
  refine wp_region_any hm ?_
  have H2 := wpAny_of_head (Q' := Q) (g := g) (fun listed a' hL => by
    obtain ⟨⟨rfl, _⟩, h3⟩ := hL
    rw [htl]
    exact h3) _ _ _ H
  rw [htl, show n + g = l.toArray.size by simp; omega] at H2
  exact H2
end Go.Proofs.Ytiogpainajokkaa

