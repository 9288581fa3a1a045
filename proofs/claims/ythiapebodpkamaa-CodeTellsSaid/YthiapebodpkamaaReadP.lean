/- Reading of bytes, in plain Lean: a number, a text, a variable, a program; what is read is just what was written. -/
import Derived.Test.YthiapebodpkamaaBytesC
namespace Go.Proofs.Ythiapebodpkamaa
def Bys (l : List Int) : Prop := ∀ x ∈ l, 0 ≤ x ∧ x ≤ 255
theorem Bys.left {a b : List Int} (h : Bys (a ++ b)) : Bys a := fun x hx => h x (List.mem_append_left _ hx)
theorem Bys.right {a b : List Int} (h : Bys (a ++ b)) : Bys b := fun x hx => h x (List.mem_append_right _ hx)
theorem Bys.append {a b : List Int} (h : Bys a) (k : Bys b) : Bys (a ++ b) := fun x hx => (List.mem_append.1 hx).elim (h x) (k x)
/-- Where the first byte below 128 stands. -/
def firstLow : List Int → Option Nat
  | [] => none
  | b :: t => if b < 128 then some 0 else (firstLow t).map (· + 1)
def valB : List Int → Nat
  | [] => 0
  | b :: t => (b % 128).toNat + 128 * valB t
def getU (l : List Int) : Option (Nat × List Int) :=
  match firstLow l with
  | none => none
  | some k => if 10 ≤ k ∨ (k = 9 ∧ 1 < l.getD 9 0) ∨ (0 < k ∧ l.getD k 0 = 0) then none else some (valB (l.take (k + 1)), l.drop (k + 1))
theorem firstLow_some : ∀ {l : List Int} {k : Nat}, firstLow l = some k → ∃ i x r, l = i ++ x :: r ∧ i.length = k ∧ (∀ b ∈ i, 128 ≤ b) ∧ x < 128 := by
  intro l
  induction l with
  | nil => intro k h; cases h
  | cons b t ih =>
    intro k h
    unfold firstLow at h
    by_cases hb : b < 128
    · rw [if_pos hb] at h
      injection h with h
      exact ⟨[], b, t, rfl, by rw [← h]; rfl, fun _ h => absurd h (by simp), hb⟩
    · rw [if_neg hb] at h
      obtain ⟨m, hm, rfl⟩ := Option.map_eq_some_iff.1 h
      obtain ⟨i, x, r, rfl, h2, h3, h4⟩ := ih hm
      refine ⟨b :: i, x, r, rfl, by simp [h2], fun y hy => ?_, h4⟩
      rcases List.mem_cons.1 hy with rfl | hy
      · omega
      · exact h3 y hy
theorem firstLow_mk : ∀ (i : List Int) (x : Int) (r : List Int), (∀ b ∈ i, 128 ≤ b) → x < 128 → firstLow (i ++ x :: r) = some i.length := by
  intro i
  induction i with
  | nil => intro x r _ hx; show (if x < 128 then some 0 else _) = some 0; rw [if_pos hx]
  | cons b t ih =>
    intro x r h hx
    have := ih x r (fun y hy => h y (by simp [hy])) hx
    rw [List.cons_append, firstLow, if_neg (by have := h b (by simp); omega), this]
    rfl
theorem valB_pos : ∀ (i : List Int) (x : Int), 0 < x → x < 128 → 1 ≤ valB (i ++ [x]) := by
  intro i
  induction i with
  | nil => intro x h1 h2; show 1 ≤ (x % 128).toNat + 128 * 0; omega
  | cons b t ih => intro x h1 h2; have := ih x h1 h2; show 1 ≤ (b % 128).toNat + 128 * valB (t ++ [x]); omega
/-- Digits that are written down as they should be. -/
structure Digs (i : List Int) (x : Int) : Prop where
  hi : ∀ b ∈ i, 128 ≤ b ∧ b ≤ 255
  lo : 0 ≤ x ∧ x < 128
  ne : i ≠ [] → x ≠ 0
theorem digs_uint : ∀ {i : List Int} {x : Int}, Digs i x → uintB (valB (i ++ [x])) = i ++ [x] := by
  intro i
  induction i with
  | nil =>
    intro x h
    obtain ⟨h1, h2⟩ := h.lo
    have e : valB ([] ++ [x]) = x.toNat := by show (x % 128).toNat + 128 * 0 = _; omega
    rw [e, uintB_small (by omega)]
    show [((x.toNat : Nat) : Int)] = [x]
    rw [Int.toNat_of_nonneg h1]
  | cons b t ih =>
    intro x h
    obtain ⟨h1, h2⟩ := h.lo
    have hx : x ≠ 0 := h.ne (by simp)
    have hb := h.hi b (by simp)
    have hp := valB_pos t x (by omega) h2
    have e : valB (b :: t ++ [x]) = (b % 128).toNat + 128 * valB (t ++ [x]) := rfl
    have hI := ih ⟨fun y hy => h.hi y (by simp [hy]), h.lo, fun _ => hx⟩
    rw [e, uintB_large (by omega), show ((b % 128).toNat + 128 * valB (t ++ [x])) / 128 = valB (t ++ [x]) by omega, hI, show ((((b % 128).toNat + 128 * valB (t ++ [x])) % 128 + 128 : Nat) : Int) = b by omega]
    rfl
theorem uint_digs (n : Nat) : ∃ i x, uintB n = i ++ [x] ∧ Digs i x ∧ valB (i ++ [x]) = n := by
  induction n using Nat.strongRecOn with
  | _ n ih =>
    by_cases h : n < 128
    · exact ⟨[], n, uintB_small h, ⟨fun _ h => absurd h (by simp), by omega, fun h => absurd rfl h⟩, by show ((n : Int) % 128).toNat + 128 * 0 = n; omega⟩
    · obtain ⟨i, x, e, d, hv⟩ := ih (n / 128) (by omega)
      refine ⟨((n % 128 + 128 : Nat) : Int) :: i, x, by rw [uintB_large (by omega), e]; rfl, ⟨fun b hb => ?_, d.lo, fun _ hx => ?_⟩, ?_⟩
      · rcases List.mem_cons.1 hb with rfl | hb
        · omega
        · exact d.hi b hb
      · subst hx
        cases i with
        | nil =>
          have : valB ([] ++ [(0 : Int)]) = 0 := rfl
          omega
        | cons y t => exact d.ne (by simp) rfl
      · show (((n % 128 + 128 : Nat) : Int) % 128).toNat + 128 * valB (i ++ [x]) = n
        rw [hv]; omega
theorem valB_lt : ∀ (i : List Int) (x : Int), 0 ≤ x → x < 128 → x.toNat * 128 ^ i.length ≤ valB (i ++ [x]) ∧ valB (i ++ [x]) < (x.toNat + 1) * 128 ^ i.length := by
  intro i
  induction i with
  | nil => intro x h1 h2; show x.toNat * 1 ≤ (x % 128).toNat + 128 * 0 ∧ (x % 128).toNat + 128 * 0 < (x.toNat + 1) * 1; omega
  | cons b t ih =>
    intro x h1 h2
    obtain ⟨a1, a2⟩ := ih x h1 h2
    show x.toNat * 128 ^ (t.length + 1) ≤ (b % 128).toNat + 128 * valB (t ++ [x]) ∧ (b % 128).toNat + 128 * valB (t ++ [x]) < (x.toNat + 1) * 128 ^ (t.length + 1)
    rw [Nat.pow_succ, ← Nat.mul_assoc, ← Nat.mul_assoc]
    generalize x.toNat * 128 ^ t.length = p at a1 ⊢
    generalize (x.toNat + 1) * 128 ^ t.length = q at a2 ⊢
    omega
theorem getU_mk {n : Nat} (hn : n < 18446744073709551616) (r : List Int) : getU (uintB n ++ r) = some (n, r) := by
  obtain ⟨i, x, e, d, hv⟩ := uint_digs n
  rw [e, List.append_assoc]
  show getU (i ++ x :: r) = _
  unfold getU
  rw [firstLow_mk i x r (fun b hb => (d.hi b hb).1) d.lo.2]
  obtain ⟨a1, _⟩ := valB_lt i x d.lo.1 d.lo.2
  rw [hv] at a1
  have hx : ∀ j, j = i.length → (i ++ x :: r).getD j 0 = x := by
    intro j hj
    subst hj
    rw [List.getD_eq_getElem?_getD, List.getElem?_append_right (Nat.le_refl _), Nat.sub_self]
    rfl
  have hk : i.length < 10 := by
    refine Nat.lt_of_not_le fun h10 => ?_
    have h0 : x ≠ 0 := d.ne (fun e => by rw [e] at h10; simp at h10)
    have h1 : 1 ≤ x.toNat := by have := d.lo.1; omega
    have h2 : 128 ^ 10 ≤ 128 ^ i.length := Nat.pow_le_pow_right (by decide) h10
    have h3 : 1 * 128 ^ 10 ≤ x.toNat * 128 ^ i.length := Nat.mul_le_mul h1 h2
    have h4 : (1 : Nat) * 128 ^ 10 = 1180591620717411303424 := by decide
    omega
  have hc : ¬ (10 ≤ i.length ∨ (i.length = 9 ∧ 1 < (i ++ x :: r).getD 9 0) ∨ (0 < i.length ∧ (i ++ x :: r).getD i.length 0 = 0)) := by
    rintro (h | ⟨h, h'⟩ | ⟨h, h'⟩)
    · omega
    · rw [hx 9 h.symm] at h'
      rw [h] at a1
      have : (128 : Nat) ^ 9 = 9223372036854775808 := by decide
      rw [this] at a1
      omega
    · rw [hx _ rfl] at h'
      exact d.ne (fun e => by rw [e] at h; simp at h) h'
  show (if _ then none else some (valB ((i ++ x :: r).take (i.length + 1)), (i ++ x :: r).drop (i.length + 1))) = _
  rw [if_neg hc]
  have t1 : (i ++ x :: r).take (i.length + 1) = i ++ [x] := by
    rw [show i ++ x :: r = (i ++ [x]) ++ r by simp, List.take_left' (by simp)]
  have t2 : (i ++ x :: r).drop (i.length + 1) = r := by
    rw [show i ++ x :: r = (i ++ [x]) ++ r by simp, List.drop_left' (by simp)]
  rw [t1, t2, hv]
theorem getU_of {l : List Int} (hb : Bys l) {n : Nat} {r : List Int} (h : getU l = some (n, r)) : n < 18446744073709551616 ∧ l = uintB n ++ r := by
  unfold getU at h
  cases hf : firstLow l with
  | none => rw [hf] at h; cases h
  | some k =>
    rw [hf] at h
    obtain ⟨i, x, r', rfl, rfl, h3, h4⟩ := firstLow_some hf
    by_cases hc : 10 ≤ i.length ∨ (i.length = 9 ∧ 1 < (i ++ x :: r').getD 9 0) ∨ (0 < i.length ∧ (i ++ x :: r').getD i.length 0 = 0)
    · rw [show (match some i.length with | none => (none : Option (Nat × List Int)) | some k => if 10 ≤ k ∨ (k = 9 ∧ 1 < (i ++ x :: r').getD 9 0) ∨ (0 < k ∧ (i ++ x :: r').getD k 0 = 0) then none else some (valB ((i ++ x :: r').take (k + 1)), (i ++ x :: r').drop (k + 1))) = none from if_pos hc] at h
      cases h
    · rw [show (match some i.length with | none => (none : Option (Nat × List Int)) | some k => if 10 ≤ k ∨ (k = 9 ∧ 1 < (i ++ x :: r').getD 9 0) ∨ (0 < k ∧ (i ++ x :: r').getD k 0 = 0) then none else some (valB ((i ++ x :: r').take (k + 1)), (i ++ x :: r').drop (k + 1))) = some (valB ((i ++ x :: r').take (i.length + 1)), (i ++ x :: r').drop (i.length + 1)) from if_neg hc] at h
      have t1 : (i ++ x :: r').take (i.length + 1) = i ++ [x] := by
        rw [show i ++ x :: r' = (i ++ [x]) ++ r' by simp, List.take_left' (by simp)]
      have t2 : (i ++ x :: r').drop (i.length + 1) = r' := by
        rw [show i ++ x :: r' = (i ++ [x]) ++ r' by simp, List.drop_left' (by simp)]
      rw [t1, t2] at h
      injection h with h
      injection h with e1 e2
      subst e2
      have hx : ∀ j, j = i.length → (i ++ x :: r').getD j 0 = x := by
        intro j hj
        subst hj
        rw [List.getD_eq_getElem?_getD, List.getElem?_append_right (Nat.le_refl _), Nat.sub_self]
        rfl
      have hxb := hb x (by simp)
      have hd : Digs i x := ⟨fun b hbi => ⟨h3 b hbi, (hb b (by simp [hbi])).2⟩, ⟨hxb.1, h4⟩, fun hne hx0 => hc (.inr (.inr ⟨by cases i with | nil => exact absurd rfl hne | cons _ _ => simp, by rw [hx _ rfl]; exact hx0⟩))⟩
      have hu := digs_uint hd
      rw [e1] at hu
      refine ⟨?_, by rw [hu]; simp⟩
      obtain ⟨_, a2⟩ := valB_lt i x hd.lo.1 hd.lo.2
      rw [e1] at a2
      have hk : i.length < 10 := Nat.lt_of_not_le fun h10 => hc (.inl h10)
      by_cases h9 : i.length = 9
      · have hx1 : x ≤ 1 := by
          refine Int.not_lt.1 fun h1 => hc (.inr (.inl ⟨h9, ?_⟩))
          rw [hx 9 h9.symm]; exact h1
        rw [h9] at a2
        have : (128 : Nat) ^ 9 = 9223372036854775808 := by decide
        rw [this] at a2
        have : x.toNat + 1 ≤ 2 := by omega
        omega
      · have h8 : 128 ^ i.length ≤ 128 ^ 8 := Nat.pow_le_pow_right (by decide) (by omega)
        have h7 : (x.toNat + 1) * 128 ^ i.length ≤ 128 * 128 ^ 8 := Nat.mul_le_mul (by have := hd.lo; omega) h8
        have : (128 : Nat) * 128 ^ 8 = 9223372036854775808 := by decide
        omega
theorem uint_bys (n : Nat) : Bys (uintB n) := by
  obtain ⟨i, x, e, d, _⟩ := uint_digs n
  rw [e]
  intro y hy
  rcases List.mem_append.1 hy with h | h
  · have := d.hi y h; omega
  · rw [List.mem_singleton.1 h]; have := d.lo; omega
/-! ### a number, a text -/
def numP (most : Nat) (l : List Int) : Option (Nat × List Int) := match getU l with | some (n, r) => if n ≤ most then some (n, r) else none | none => none
theorem numP_mk {most n : Nat} (hm : most < 18446744073709551616) (h : n ≤ most) (r : List Int) : numP most (uintB n ++ r) = some (n, r) := by
  unfold numP
  rw [getU_mk (by omega)]
  exact if_pos h
theorem numP_of {most : Nat} {l : List Int} (hb : Bys l) {n : Nat} {r : List Int} (h : numP most l = some (n, r)) : n ≤ most ∧ l = uintB n ++ r := by
  unfold numP at h
  cases hg : getU l with
  | none => rw [hg] at h; cases h
  | some p =>
    obtain ⟨m, r'⟩ := p
    rw [hg] at h
    by_cases hm : m ≤ most
    · rw [show (match some (m, r') with | some (n, r) => if n ≤ most then some (n, r) else none | none => (none : Option (Nat × List Int))) = some (m, r') from if_pos hm] at h
      injection h with h
      injection h with e1 e2
      subst e1 e2
      exact ⟨hm, (getU_of hb hg).2⟩
    · rw [show (match some (m, r') with | some (n, r) => if n ≤ most then some (n, r) else none | none => (none : Option (Nat × List Int))) = none from if_neg hm] at h
      cases h
end Go.Proofs.Ythiapebodpkamaa

