/- A region that draws its order, by ONE relation over what has been carried out so far: each operation is shown once. -/
import Derived.Test.YthiapebodpkamaaWords
import Derived.Orders
namespace Go.Proofs.Ythiapebodpkamaa
open Go.RowKit
def ub (b : Nat → Bool) (i : Nat) : Nat → Bool := fun j => if j = i then true else b j
theorem ub_self (b : Nat → Bool) (i : Nat) : ub b i i = true := by simp [ub]
theorem ub_ne {b : Nat → Bool} {i j : Nat} (h : j ≠ i) : ub b i j = b j := by simp [ub, h]
theorem filter_lt (l : List Nat) (p q : Nat → Bool) (i : Nat) (hi : i ∈ l) (h : ∀ x, q x = true → p x = true) (hp : p i = true) (hq : q i = false) : (l.filter q).length < (l.filter p).length := by
  induction l with
  | nil => cases hi
  | cons x l ih =>
    have hle : ∀ l : List Nat, (l.filter q).length ≤ (l.filter p).length := by
      intro l
      induction l with
      | nil => simp
      | cons y l ih2 =>
        rw [List.filter_cons, List.filter_cons]
        cases hqy : q y with
        | true => rw [h y hqy]; simpa using ih2
        | false => cases p y <;> simp <;> omega
    rw [List.filter_cons, List.filter_cons]
    rcases List.mem_cons.1 hi with rfl | hi
    · rw [hp, hq]
      have := hle l
      simp; omega
    · have := ih hi
      cases hqx : q x with
      | true => rw [h x hqx]; simpa using this
      | false => cases p x <;> simp <;> omega
section
variable {P : Program} {ops : Array Oper} {Q : Exit → Act → World → Prop} {md : Region.Mode}
theorem wpAny_inv (hac : ∀ i o, ops[i]? = some o → ∀ e ∈ o.after, Region.binds md e = true → e.on < i) (I : (Nat → Bool) → Act → World → Prop)
    (hs : ∀ i, i < ops.size → ∀ b a w, I b a w → b i = false → (∀ o, ops[i]? = some o → ∀ e ∈ o.after, Region.binds md e = true → b e.on = true) → wpOp P ops Q i (I (ub b i)) a w)
    (hf : ∀ b a w, (∀ j, j < ops.size → b j = true) → I b a w → Q .normal a w) :
    ∀ (fuel : Nat) (listed : Array Bool) (a : Act) (w : World), listed.size = ops.size → ((List.range ops.size).filter fun j => !listed.getD j true).length ≤ fuel → I (fun j => listed.getD j false) a w → wpAny P md ops Q fuel listed a w := by
  have hgd : ∀ (listed : Array Bool) (j : Nat), listed.size = ops.size → j < ops.size → ∀ d d', listed.getD j d = listed.getD j d' := by
    intro listed j hs hj d d'
    simp [Array.getD, show j < listed.size by omega]
  -- where nothing is ready, all is listed
  have hall : ∀ listed : Array Bool, listed.size = ops.size → Region.ready md ops listed = [] → ∀ m, ∀ j, j < m → j < ops.size → listed.getD j false = true := by
    intro listed hsz hr m
    induction m with
    | zero => intro j hj; omega
    | succ m ih =>
      intro j hj hjl
      cases hl : listed.getD j false with
      | true => rfl
      | false =>
        exfalso
        have hmem : j ∈ Region.ready md ops listed := by
          unfold Region.ready
          rw [List.mem_filter, List.mem_range]
          refine ⟨hjl, ?_⟩
          rw [hgd listed j hsz hjl true false, hl]
          have ho : ops[j]? = some ops[j] := Array.getElem?_eq_getElem hjl
          simp only [Bool.not_false, Bool.true_and, ho, Option.map_some, Option.getD_some, Array.all_eq_true_iff_forall_mem, Bool.or_eq_true]
          intro e he
          cases hb : Region.binds md e with
          | false => exact .inl rfl
          | true =>
            have hlt := hac j _ ho e he hb
            exact .inr (ih e.on (by omega) (by omega))
        rw [hr] at hmem
        cases hmem
  intro fuel
  induction fuel with
  | zero =>
    intro listed a w hsz hc hI
    have hno : Region.ready md ops listed = [] := by
      refine List.eq_nil_iff_forall_not_mem.2 (fun i hi => ?_)
      unfold Region.ready at hi
      rw [List.mem_filter] at hi
      have : i ∈ (List.range ops.size).filter fun j => !listed.getD j true := by
        rw [List.mem_filter]
        refine ⟨hi.1, ?_⟩
        have := hi.2
        simp only [Bool.and_eq_true] at this
        exact this.1
      have hlen := List.length_pos_of_mem this
      omega
    exact ⟨hno, hf _ a w (fun j hj => hall listed hsz hno (j + 1) j (by omega) hj) hI⟩
  | succ fuel ih =>
    intro listed a w hsz hc hI
    refine ⟨fun hr => hf _ a w (fun j hj => hall listed hsz hr (j + 1) j (by omega) hj) hI, fun i hi => ?_⟩
    unfold Region.ready at hi
    rw [List.mem_filter, List.mem_range] at hi
    obtain ⟨hlt, hi⟩ := hi
    simp only [Bool.and_eq_true, Bool.not_eq_true'] at hi
    obtain ⟨hi1, hi2⟩ := hi
    have hb : listed.getD i false = false := by rw [← hi1]; exact hgd listed i hsz hlt _ _
    have hub : (fun j => (listed.setIfInBounds i true).getD j false) = ub (fun j => listed.getD j false) i := by
      funext j
      simp only [ub]
      by_cases hj : j = i
      · subst hj
        simp [Array.getD, hsz, hlt]
      · rw [if_neg hj]
        simp [Array.getD_eq_getD_getElem?, Ne.symm hj]
    refine wpOp_mono (fun a' w' hI' => ih _ a' w' (by simpa using hsz) ?_ (by rw [hub]; exact hI')) (hs i hlt _ a w hI hb ?_)
    · have := filter_lt (List.range ops.size) (fun j => !listed.getD j true) (fun j => !(listed.setIfInBounds i true).getD j true) i (List.mem_range.2 hlt) ?_ (by simp [hi1]) (by simp [Array.getD, hsz, hlt])
      · omega
      · intro x hx
        simp only [Array.getD_eq_getD_getElem?, Array.getElem?_setIfInBounds, Bool.not_eq_true'] at hx ⊢
        by_cases hix : i = x
        · subst hix
          simp [hsz, hlt] at hx
        · rw [if_neg hix] at hx
          exact hx
    · intro o ho e he hbd
      rw [ho] at hi2
      simp only [Option.map_some, Option.getD_some, Array.all_eq_true_iff_forall_mem, Bool.or_eq_true, Bool.not_eq_true'] at hi2
      rcases hi2 e he with h | h
      · rw [hbd] at h; cases h
      · exact h
theorem wp_region_inv {id : Nat} {a : Act} {w : World} (hm : P.follows .mixedOrders = true) (hac : ∀ i o, ops[i]? = some o → ∀ e ∈ o.after, Region.binds .any e = true → e.on < i) (I : (Nat → Bool) → Act → World → Prop)
    (h0 : I (fun _ => false) a w.drew)
    (hs : ∀ i, i < ops.size → ∀ b a w, I b a w → b i = false → (∀ o, ops[i]? = some o → ∀ e ∈ o.after, Region.binds .any e = true → b e.on = true) → wpOp P ops Q i (I (ub b i)) a w)
    (hf : ∀ b a w, (∀ j, j < ops.size → b j = true) → I b a w → Q .normal a w) : (Code.region id ops true).wp P Q a w := by
  refine wp_region_any hm (wpAny_inv hac I hs hf _ _ _ _ (by simp) ?_ ?_)
  · exact Nat.le_trans (List.length_filter_le _ _) (by simp)
  · have : (fun j => (Array.replicate ops.size false).getD j false) = fun _ => false := by
      funext j
      simp only [Array.getD]
      split <;> simp
    rw [this]
    exact h0
theorem wpOp_of {i : Nat} {o : Oper} {K : Act → World → Prop} {a : Act} {w : World} (ho : ops[i]? = some o) (hg : o.guard = none) (h : o.wp P a w K Q) : wpOp P ops Q i K a w := by
  unfold wpOp
  rw [ho]
  simp only [Region.wanted, hg, if_true]
  exact .inl h
end
end Go.Proofs.Ythiapebodpkamaa

