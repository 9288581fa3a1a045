/- Plain laws of numbers in base 128. -/
import Derived.Test.YthiapebodpkamaaWords
namespace Go.Proofs.Ythiapebodpkamaa
def bitLen (n : Nat) : Nat := if h : n = 0 then 0 else bitLen (n / 2) + 1
termination_by n
decreasing_by omega
theorem bitLen_zero : bitLen 0 = 0 := by rw [bitLen]; simp
theorem bitLen_succ {n : Nat} (h : 0 < n) : bitLen n = bitLen (n / 2) + 1 := by rw [bitLen, dif_neg (by omega)]
theorem bitLen_shift (k : Nat) : ∀ n, 2 ^ k ≤ n → bitLen n = bitLen (n / 2 ^ k) + k := by
  induction k with
  | zero => intro n _; simp
  | succ k ih =>
    intro n h
    have hp : 0 < 2 ^ k := Nat.pow_pos (by decide)
    have h2 : 2 ^ (k + 1) = 2 ^ k * 2 := Nat.pow_succ ..
    rw [ih n (by omega)]
    have hq : 0 < n / 2 ^ k := Nat.div_pos (by omega) hp
    rw [bitLen_succ hq, Nat.div_div_eq_div_mul, h2]
    have : 2 ≤ n / 2 ^ k := by rw [Nat.le_div_iff_mul_le hp]; omega
    omega
theorem bitLen_le (k : Nat) : ∀ n, n < 2 ^ k → bitLen n ≤ k := by
  induction k with
  | zero => intro n h; have : n = 0 := by omega
            subst this; rw [bitLen_zero]; exact Nat.le_refl _
  | succ k ih =>
    intro n h
    by_cases h0 : n = 0
    · subst h0; rw [bitLen_zero]; omega
    · rw [bitLen_succ (by omega)]
      have := ih (n / 2) (by rw [Nat.pow_succ] at h; omega)
      omega
/-- How many digits a number has. -/
def digitsOf (n : Nat) : Nat := max ((bitLen n + 6) / 7) 1
theorem digitsOf_small {n : Nat} (h : n < 128) : digitsOf n = 1 := by
  have := bitLen_le 7 n h
  unfold digitsOf
  omega
theorem digitsOf_large {n : Nat} (h : 128 ≤ n) : digitsOf n = digitsOf (n / 128) + 1 := by
  have h1 := bitLen_shift 7 n h
  have h2 : 0 < n / 128 := by omega
  have h3 := bitLen_succ h2
  unfold digitsOf
  rw [h1]
  show max ((bitLen (n / 128) + 7 + 6) / 7) 1 = _
  omega
theorem digitsOf_le {n : Nat} (h : n < 2 ^ 64) : digitsOf n ≤ 10 := by
  have := bitLen_le 64 n h
  unfold digitsOf
  omega
theorem digitsOf_pos (n : Nat) : 1 ≤ digitsOf n := by unfold digitsOf; omega
/-- A number's bytes. -/
def uintB (n : Nat) : List Int := if h : n < 128 then [(n : Int)] else ((n % 128 + 128 : Nat) : Int) :: uintB (n / 128)
termination_by n
decreasing_by omega
theorem uintB_small {n : Nat} (h : n < 128) : uintB n = [(n : Int)] := by rw [uintB, dif_pos h]
theorem uintB_large {n : Nat} (h : 128 ≤ n) : uintB n = ((n % 128 + 128 : Nat) : Int) :: uintB (n / 128) := by rw [uintB, dif_neg (by omega)]
theorem uintB_length (n : Nat) : (uintB n).length = digitsOf n := by
  induction n using Nat.strongRecOn with
  | _ n ih =>
    by_cases h : n < 128
    · rw [uintB_small h, digitsOf_small h]; rfl
    · rw [uintB_large (by omega), digitsOf_large (by omega), List.length_cons, ih (n / 128) (by omega)]
/-- The first k of the longer digits, and the last one. -/
def lows (n : Nat) : Nat → List Int
  | 0 => []
  | k + 1 => lows n k ++ [((n / 128 ^ k % 128 + 128 : Nat) : Int)]
theorem lows_cons (n k : Nat) : lows n (k + 1) = ((n % 128 + 128 : Nat) : Int) :: lows (n / 128) k := by
  induction k with
  | zero => simp [lows]
  | succ k ih =>
    rw [lows, ih, lows, List.cons_append]
    rw [Nat.pow_succ, Nat.mul_comm, Nat.div_div_eq_div_mul]
theorem uintB_lows (n : Nat) : uintB n = lows n (digitsOf n - 1) ++ [((n / 128 ^ (digitsOf n - 1) : Nat) : Int)] := by
  induction n using Nat.strongRecOn with
  | _ n ih =>
    by_cases h : n < 128
    · rw [uintB_small h, digitsOf_small h]; simp [lows]
    · have hd := digitsOf_large (n := n) (by omega)
      have hp := digitsOf_pos (n / 128)
      rw [uintB_large (by omega), ih (n / 128) (by omega), hd]
      obtain ⟨m, hm⟩ : ∃ m, digitsOf (n / 128) = m + 1 := ⟨digitsOf (n / 128) - 1, by omega⟩
      rw [hm]
      show _ :: (lows (n / 128) m ++ [((n / 128 / 128 ^ m : Nat) : Int)]) = lows n (m + 1) ++ [((n / 128 ^ (m + 1) : Nat) : Int)]
      rw [lows_cons, List.cons_append, Nat.pow_succ, Nat.mul_comm, Nat.div_div_eq_div_mul]
theorem last_lt (n : Nat) : n / 128 ^ (digitsOf n - 1) < 128 := by
  induction n using Nat.strongRecOn with
  | _ n ih =>
    by_cases h : n < 128
    · rw [digitsOf_small h]; simpa using h
    · have hd := digitsOf_large (n := n) (by omega)
      have hp := digitsOf_pos (n / 128)
      obtain ⟨m, hm⟩ : ∃ m, digitsOf (n / 128) = m + 1 := ⟨digitsOf (n / 128) - 1, by omega⟩
      have := ih (n / 128) (by omega)
      rw [hm] at this
      rw [hd, hm]
      show n / 128 ^ (m + 1) < 128
      rw [Nat.pow_succ, Nat.mul_comm, ← Nat.div_div_eq_div_mul]
      exact this
end Go.Proofs.Ythiapebodpkamaa

