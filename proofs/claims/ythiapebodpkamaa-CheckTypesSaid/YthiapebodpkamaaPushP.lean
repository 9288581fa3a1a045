/- CheckPushes: the plain laws. A line of pushes and as many drops. -/
import Derived.Test.YthiapebodpkamaaAwk14
namespace Go.Proofs.Ythiapebodpkamaa
def pushIns (t : Int) : GIns := ⟨1, t, 0, 0⟩
def dropIns : GIns := ⟨17, 0, 0, 0⟩
def pushL (n : Nat) (t : Int) : List GIns := List.replicate n (pushIns t) ++ List.replicate n dropIns
theorem pushL_len (n : Nat) (t : Int) : (pushL n t).length = n + n := by simp [pushL]
theorem idx_all {p : Nat → Bool} {n : Nat} (h : ∀ i, i < n → p i = false) : idxFrom p n 0 = -1 := by
  have g : ∀ m j, (∀ i, j ≤ i → i < j + m → p i = false) → idxFrom p m j = -1 := by
    intro m
    induction m with
    | zero => intro j _; rfl
    | succ m ih =>
      intro j hj
      rw [idxFrom, if_neg (by rw [hj j (Nat.le_refl _) (by omega)]; exact Bool.false_ne_true)]
      exact ih (j + 1) fun i h1 h2 => hj i (by omega) (by omega)
  exact g n 0 fun i _ h2 => h i (by omega)
theorem pg_right {l : List GIns} (h1 : 1 ≤ l.length) (h2 : l.length ≤ 2000) (hf : ∀ i ∈ l, fitsB (pg l) i = true) : rightB (pg l) = true := by
  have hi : inssBad (pg l) = false := by
    unfold inssBad
    rw [idx_all (fun j hj => ?_), decide_eq_false (by decide)]
    unfold insBad
    rw [List.getElem?_eq_getElem hj]
    simp only [hf _ (List.getElem_mem hj), Bool.not_true]
  have e : varsBad (pg l) = false := rfl
  have e2 : blocksBad (pg l) = false := rfl
  unfold rightB
  rw [hi, e, e2]
  have e3 : namedB (pg l).name = true := by kernel_rfl
  have a1 : (pg l).vars.length ≤ 200 := by show 0 ≤ 200; decide
  have a2 : (pg l).blocks.length ≤ 100 := by show 0 ≤ 100; decide
  have a3 : 1 ≤ (pg l).ins.length := h1
  have a4 : (pg l).ins.length ≤ 2000 := h2
  rw [e3, decide_eq_true a1, decide_eq_true a2, decide_eq_true a3, decide_eq_true a4]
  rfl
theorem push_fits {l : List GIns} {t : Int} (h1 : 1 ≤ t) (h2 : t ≤ 5) : fitsB (pg l) (pushIns t) = true := by
  have : t = 1 ∨ t = 2 ∨ t = 3 ∨ t = 4 ∨ t = 5 := by omega
  rcases this with rfl | rfl | rfl | rfl | rfl <;> rfl
theorem drop_fits {l : List GIns} : fitsB (pg l) dropIns = true := rfl
theorem push_right {n : Nat} {t : Int} (h1 : 1 ≤ t) (h2 : t ≤ 5) (hn1 : 1 ≤ n) (hn2 : n ≤ 100) : rightB (pg (pushL n t)) = true := by
  refine pg_right (by rw [pushL_len]; omega) (by rw [pushL_len]; omega) fun i hi => ?_
  rcases List.mem_append.1 hi with h | h
  · rw [List.eq_of_mem_replicate h]; exact push_fits h1 h2
  · rw [List.eq_of_mem_replicate h]; exact drop_fits
/-- What is told of place j when places before k were gone over. -/
def psp (n : Nat) (t : Int) (k j : Nat) : GSpot := if j ≤ k then ⟨true, List.replicate (if j ≤ n then j else n + n - j) t, j⟩ else ⟨false, [], 0⟩
def prow (n : Nat) (t : Int) (k : Nat) : List GSpot := (List.range (n + n + 1)).map (psp n t k)
theorem prow_len (n : Nat) (t : Int) (k : Nat) : (prow n t k).length = n + n + 1 := by simp [prow]
theorem prow_at {n : Nat} {t : Int} {k : Nat} (hk : k ≤ n + n) (j : Nat) : spotAt (prow n t k) j = psp n t k j := by
  unfold spotAt prow
  rw [List.getD_eq_getElem?_getD, List.getElem?_map]
  by_cases hj : j < n + n + 1
  · rw [List.getElem?_range hj]; rfl
  · rw [List.getElem?_eq_none (by simp; omega)]
    unfold psp
    rw [if_neg (by omega)]
    rfl
theorem prow_start (n : Nat) (t : Int) : start (n + n) = prow n t 0 := by
  unfold start prow
  rw [List.range_succ_eq_map, List.map_cons, List.map_map]
  congr 1
  refine (List.eq_replicate_iff.2 ⟨by simp, fun b hb => ?_⟩).symm
  obtain ⟨a, _, rfl⟩ := List.mem_map.1 hb
  unfold Function.comp psp
  rw [if_neg (by omega)]
theorem prow_goes {n : Nat} {t : Int} {k : Nat} (hk : k < n + n) {s : Int} (hs : s = k + 1) : goesTo (prow n t k) (k + 1) (List.replicate (if k + 1 ≤ n then k + 1 else n + n - (k + 1)) t) s = prow n t (k + 1) := by
  unfold goesTo
  rw [prow_at (by omega)]
  have e0 : (psp n t k (k + 1)).steps = 0 := by unfold psp; rw [if_neg (by omega)]
  rw [e0, hs]
  refine List.ext_getElem (by simp [prow]) fun j h1 h2 => ?_
  have hj : j < n + n + 1 := by simpa [prow] using h2
  rw [List.getElem_set]
  by_cases e : k + 1 = j
  · subst e
    rw [if_pos rfl]
    simp only [prow, List.getElem_map, List.getElem_range, psp, Nat.le_refl, if_true]
    congr 1 <;> omega
  · rw [if_neg e]
    simp only [prow, List.getElem_map, List.getElem_range, psp]
    by_cases h3 : j ≤ k
    · rw [if_pos h3, if_pos (show j ≤ k + 1 by omega)]
    · rw [if_neg h3, if_neg (show ¬ j ≤ k + 1 by omega)]
theorem prow_ok {n : Nat} {t : Int} {k : Nat} (hk : k < n + n) (st : List Int) : goesOk (prow n t k) (k + 1) st = true := by
  unfold goesOk
  rw [prow_at (by omega)]
  have e0 : (psp n t k (k + 1)).reached = false := by unfold psp; rw [if_neg (by omega)]
  rw [e0]; rfl
theorem psp_self (n : Nat) (t : Int) (k : Nat) : psp n t k k = ⟨true, List.replicate (if k ≤ n then k else n + n - k) t, k⟩ := by unfold psp; rw [if_pos (Nat.le_refl _)]
theorem push_step {n : Nat} {t : Int} {k : Nat} (hk : k < n) (h64 : k < 64) : stepAt (pg (pushL n t)) (prow n t k) k = (prow n t (k + 1), 0) := by
  unfold stepAt oneB
  rw [prow_at (by omega), psp_self, if_pos (Nat.le_of_lt hk)]
  have hi : (pg (pushL n t)).ins[k]? = some (pushIns t) := by
    show (pushL n t)[k]? = _
    unfold pushL
    rw [List.getElem?_append_left (by simpa using hk)]
    simp [hk]
  rw [if_pos rfl, hi]
  show oneIns (pushIns t) ⟨true, List.replicate k t, k⟩ k ([], [t]) (prow n t k) = _
  have hx : nextB (List.replicate k t) ([], [t]) = List.replicate (if k + 1 ≤ n then k + 1 else n + n - (k + 1)) t := by
    rw [if_pos (by omega)]
    unfold nextB
    rw [List.replicate_succ']
    simp
  have hl : (nextB (List.replicate k t) ([], [t])).length = k + 1 := by unfold nextB; simp
  unfold oneIns
  rw [if_neg (by simp [jumpsB, pushIns])]
  rw [if_neg (by simp [takesOk])]
  rw [if_neg (by rw [hl]; simp [pushIns]; omega)]
  rw [if_neg (by simp [jumpsB, pushIns])]
  have hj : jumpsB (pushIns t) = false := by simp [jumpsB, pushIns]
  have hs : staysB (pushIns t) = true := by simp [staysB, pushIns]
  simp only [hj, hs, if_true, Bool.false_eq_true, if_false]
  rw [if_pos (prow_ok (by omega) _), hx, prow_goes (by omega) rfl]
theorem push_full {n : Nat} {t : Int} (hk : 64 < n) : stepAt (pg (pushL n t)) (prow n t 64) 64 = (prow n t 64, 140) := by
  unfold stepAt oneB
  rw [prow_at (by omega), psp_self, if_pos (show 64 ≤ n by omega)]
  have hi : (pg (pushL n t)).ins[64]? = some (pushIns t) := by
    show (pushL n t)[64]? = _
    unfold pushL
    rw [List.getElem?_append_left (by simpa using hk)]
    simp [hk]
  rw [if_pos rfl, hi]
  show oneIns (pushIns t) ⟨true, List.replicate 64 t, 64⟩ 64 ([], [t]) (prow n t 64) = _
  have hl : (nextB (List.replicate 64 t) ([], [t])).length = 64 + 1 := by unfold nextB; simp
  unfold oneIns
  rw [if_neg (by simp [jumpsB, pushIns])]
  rw [if_neg (by simp [takesOk])]
  rw [if_pos (by rw [hl]; simp)]
theorem drop_step {n : Nat} {t : Int} {k : Nat} (h1 : n ≤ k) (hk : k < n + n) : n ≤ 64 → stepAt (pg (pushL n t)) (prow n t k) k = (prow n t (k + 1), 0) := by
  intro hn
  obtain ⟨m, hm⟩ : ∃ m, (if k ≤ n then k else n + n - k) = m + 1 := by
    by_cases e : k ≤ n
    · rw [if_pos e]; exact ⟨k - 1, by omega⟩
    · rw [if_neg e]; exact ⟨n + n - k - 1, by omega⟩
  have hm2 : (if k + 1 ≤ n then k + 1 else n + n - (k + 1)) = m := by
    rw [if_neg (by omega)]
    by_cases e : k ≤ n
    · rw [if_pos e] at hm; omega
    · rw [if_neg e] at hm; omega
  have hm3 : m < 64 := by
    by_cases e : k ≤ n
    · rw [if_pos e] at hm; omega
    · rw [if_neg e] at hm; omega
  unfold stepAt oneB
  rw [prow_at (by omega), psp_self, hm]
  have hi : (pg (pushL n t)).ins[k]? = some dropIns := by
    show (pushL n t)[k]? = _
    unfold pushL
    rw [List.getElem?_append_right (by simpa using h1), List.getElem?_replicate, if_pos (by rw [List.length_replicate]; omega)]
  rw [if_pos rfl, hi]
  have hl : (List.replicate (m + 1) t).getLastD 0 = t := by rw [List.replicate_succ']; simp
  have he : effB (pg (pushL n t)) dropIns (List.replicate (m + 1) t) = ([t], []) := by
    show ([(List.replicate (m + 1) t).getLastD 0], []) = _
    rw [hl]
  show oneIns dropIns ⟨true, List.replicate (m + 1) t, k⟩ k (effB (pg (pushL n t)) dropIns (List.replicate (m + 1) t)) (prow n t k) = _
  rw [he]
  have hx : nextB (List.replicate (m + 1) t) ([t], []) = List.replicate m t := by
    unfold nextB
    simp [List.take_replicate]
  unfold oneIns
  rw [if_neg (by simp [jumpsB, dropIns])]
  rw [if_neg (by simp [takesOk, List.drop_replicate])]
  rw [if_neg (by rw [hx]; simp [dropIns]; omega)]
  rw [if_neg (by simp [jumpsB, dropIns])]
  have hj : jumpsB dropIns = false := by simp [jumpsB, dropIns]
  have hs : staysB dropIns = true := by simp [staysB, dropIns]
  simp only [hj, hs, if_true, Bool.false_eq_true, if_false]
  have hg := prow_goes (n := n) (t := t) hk (s := (k : Int) + 1) rfl
  rw [hm2] at hg
  rw [if_pos (prow_ok hk _), hx, hg]
theorem end_step {n : Nat} {t : Int} (hn : 1 ≤ n) : stepAt (pg (pushL n t)) (prow n t (n + n)) (n + n) = (prow n t (n + n), 0) := by
  unfold stepAt oneB
  rw [prow_at (by omega), psp_self, if_neg (show ¬ n + n ≤ n by omega)]
  have hi : (pg (pushL n t)).ins[n + n]? = none := List.getElem?_eq_none (by show (pushL n t).length ≤ _; rw [pushL_len]; omega)
  rw [if_pos rfl, hi]
  simp
theorem push_walk {n : Nat} {t : Int} (hn : 1 ≤ n) (h64 : n ≤ 64) : ∀ (f k : Nat), k + f = n + n + 1 → walkB (pg (pushL n t)) f k (prow n t (min k (n + n))) = (prow n t (n + n), 0, 0) := by
  intro f
  induction f with
  | zero =>
    intro k hk
    have : min k (n + n) = n + n := by omega
    rw [this]; rfl
  | succ f ih =>
    intro k hk
    have hkm : min k (n + n) = k := by omega
    rw [hkm]
    have hs : stepAt (pg (pushL n t)) (prow n t k) k = (prow n t (min (k + 1) (n + n)), 0) := by
      by_cases h1 : k < n
      · rw [push_step h1 (by omega)]; congr 2; omega
      by_cases h2 : k < n + n
      · rw [drop_step (by omega) h2 h64]; congr 2; omega
      · obtain rfl : k = n + n := by omega
        rw [end_step hn]; congr 2; omega
    unfold walkB
    rw [hs, if_pos rfl]
    exact ih (k + 1) (by omega)
theorem push_walk_bad {n : Nat} {t : Int} (h64 : 64 < n) : ∀ (f k : Nat), k + f = n + n + 1 → k ≤ 64 → walkB (pg (pushL n t)) f k (prow n t k) = ([], 64, 140) := by
  intro f
  induction f with
  | zero => intro k hk h; omega
  | succ f ih =>
    intro k hk h
    unfold walkB
    by_cases h1 : k < 64
    · rw [push_step (by omega) h1, if_pos rfl]
      exact ih (k + 1) (by omega) (by omega)
    · obtain rfl : k = 64 := by omega
      rw [push_full h64, if_neg (show ¬((140 : Int) = 0) by decide)]
theorem push_spots {n : Nat} {t : Int} (h1 : 1 ≤ t) (h2 : t ≤ 5) (hn : 1 ≤ n) (h64 : n ≤ 64) : spotsB (pg (pushL n t)) = (prow n t (n + n), 0, 0) := by
  unfold spotsB
  rw [if_pos (push_right h1 h2 hn (by omega))]
  show walkB (pg (pushL n t)) ((pushL n t).length + 1) 0 (start (pushL n t).length) = _
  rw [pushL_len, prow_start n t]
  have := push_walk (t := t) hn h64 (n + n + 1) 0 (by omega)
  rwa [show min 0 (n + n) = 0 by omega] at this
theorem push_bad {n : Nat} {t : Int} (h1 : 1 ≤ t) (h2 : t ≤ 5) (h64 : 64 < n) (h100 : n ≤ 100) : spotsB (pg (pushL n t)) = ([], 64, 140) := by
  unfold spotsB
  rw [if_pos (push_right h1 h2 (by omega) h100)]
  show walkB (pg (pushL n t)) ((pushL n t).length + 1) 0 (start (pushL n t).length) = _
  rw [pushL_len, prow_start n t]
  exact push_walk_bad h64 (n + n + 1) 0 (by omega) (by omega)
theorem most_top (n : Nat) (M : Int) : ∀ (l : List GSpot) (j : Nat) (m : Int), m ≤ M → (∀ i (h : i < l.length), spotCost n (j + i) l[i] ≤ M) → mostB n j l m ≤ M := by
  intro l
  induction l with
  | nil => intro j m h _; exact h
  | cons s l ih =>
    intro j m h hc
    rw [mostB]
    refine ih (j + 1) _ ?_ fun i hi => ?_
    · have := hc 0 (by simp)
      simp only [List.getElem_cons_zero, Nat.add_zero] at this
      omega
    · have := hc (i + 1) (by simpa using hi)
      rwa [show j + (i + 1) = j + 1 + i by omega] at this
theorem push_steps {n : Nat} {t : Int} (h1 : 1 ≤ t) (h2 : t ≤ 5) (hn : 1 ≤ n) (h64 : n ≤ 64) : stepsB (pg (pushL n t)) = ((n + n : Nat) : Int) := by
  have e : stepsB (pg (pushL n t)) = mostB (n + n) 0 (prow n t (n + n)) 0 := by
    unfold stepsB
    rw [push_spots h1 h2 hn h64, if_pos rfl]
    show mostB (pushL n t).length 0 _ 0 = _
    rw [pushL_len]
  rw [e]
  have hat : ∀ i (h : i < (prow n t (n + n)).length), (prow n t (n + n))[i] = ⟨true, List.replicate (if i ≤ n then i else n + n - i) t, i⟩ := by
    intro i h
    have hi : i < n + n + 1 := by rwa [prow_len] at h
    simp only [prow, List.getElem_map, List.getElem_range, psp]
    rw [if_pos (by omega)]
  refine Int.le_antisymm (most_top _ _ _ _ _ (by omega) fun i hi => ?_) ?_
  · have h3 : i < n + n + 1 := by rwa [prow_len] at hi
    rw [hat i hi]
    unfold spotCost
    by_cases h4 : 0 + i < n + n
    · rw [if_pos (by simpa using h4)]; simp; omega
    · rw [if_neg (by simpa using h4)]; simp; omega
  · have h3 : n + n < (prow n t (n + n)).length := by rw [prow_len]; omega
    have := (most_le (n + n) (prow n t (n + n)) 0 0).2 (n + n) h3
    rw [hat _ h3] at this
    unfold spotCost at this
    rw [if_neg (by simp)] at this
    exact this
theorem push_check {n : Nat} {t : Int} (h1 : 1 ≤ t) (h2 : t ≤ 5) (hn : 1 ≤ n) (h64 : n ≤ 64) : checkB (pg (pushL n t)) (2 * n) = 0 ∧ checkB (pg (pushL n t)) (2 * n - 1) = 142 := by
  unfold checkB
  rw [push_spots h1 h2 hn h64, push_steps h1 h2 hn h64]
  constructor
  · rw [if_pos rfl, if_neg (by omega)]
  · rw [if_pos rfl, if_pos (by omega)]
end Go.Proofs.Ythiapebodpkamaa

