/- Contracts of the closures of code.fits. -/
import Derived.Test.YtiogpainajokkaaBaseM
namespace Go.Proofs.Ytiogpainajokkaa
open Go.RowKit
def belowB (high n : Int) : Bool := decide (0 ≤ n) && decide (n < high)
theorem below_mk (h : Int) (w : World) : Calls Try.prog 145 #[.int .i64 h] w fun e w' => e = .returned (.func (.func 146) #[] #[.pointer (some ⟨w.heap.size, 0, none⟩)]) ∧ w.alloc (.cells #[.int .i64 h] 3) = w' := by
  go_enter Try.func145, Try.ntmps145
  go_wp2
  go_ret
  exact ⟨rfl, rfl⟩
theorem below_any (n h : Int) (a : Addr) (w : World) (hc : w.cell? a = some (.int .i64 h)) : Calls Try.prog 146 #[.int .i64 n, .pointer (some a)] w fun e w' => e = .returned (.bool (belowB h n)) ∧ w = w' := by
  unfold belowB
  go_enter Try.func146, Try.ntmps146
  go_wp2
  all_goals go_ret
  all_goals (refine ⟨?_, rfl⟩; first | (simp_all; done) | (simp_all; omega))
def wholeB (n : Int) : Bool := typedB n && decide (n ≠ 1)
theorem whole_any (n : Int) (w : World) : Calls Try.prog 147 #[.int .i64 n] w fun e w' => e = .returned (.bool (wholeB n)) ∧ w = w' := by
  have ht : typedB n = true → 1 ≤ n ∧ n ≤ 5 := by simp [typedB]
  unfold wholeB
  cases hb : typedB n with
  | false =>
    go_enter Try.func147, Try.ntmps147
    go_wp2_with (go_at_call 112; refine (typed_any _ _).mono ?_; rintro e w' ⟨rfl, rfl⟩)
    all_goals go_ret
    all_goals (refine ⟨?_, rfl⟩; first | (simp_all; done) | (simp_all; omega))
  | true =>
    obtain ⟨h1, h2⟩ := ht hb
    clear ht
    go_enter Try.func147, Try.ntmps147
    go_wp2_with (go_at_call 112; refine (typed_any _ _).mono ?_; rintro e w' ⟨rfl, rfl⟩)
    all_goals go_ret
    all_goals (refine ⟨ret_bool ?_, rfl⟩; rw [Bool.eq_iff_iff]; simp)
theorem num_any (n t : Int) (b : Nat) (w : World) (hc : w.cell? ⟨b, 1, none⟩ = some (.int .u8 t)) : Calls Try.prog 149 #[.int .i64 n, .pointer (some ⟨b, 0, none⟩)] w fun e w' => e = .returned (.bool (withinB t n)) ∧ w = w' := by
  go_enter Try.func149, Try.ntmps149
  go_wp2_with (go_at_call 113; refine (within_any _ _ _).mono ?_; rintro e w' ⟨rfl, rfl⟩)
  all_goals go_ret
  all_goals exact ⟨rfl, rfl⟩
def storeB (vs : List GVar) (n : Int) : Bool := belowB vs.length n && (match vs[n.toNat]? with | some v => decide (v.cls ≠ 1) | none => false)
set_option maxHeartbeats 1000000 in
theorem store_any (n : Int) (xs : List GVar) (v : Value) (a : Addr) (bc : Nat) (w : World) (ha : w.cell? a = some (.func (.func 145) #[] #[])) (hc : w.cell? ⟨bc, 1, none⟩ = some v) (hR : Rd encVar 4 w v xs) (hbc : bc < w.heap.size) :
    Calls Try.prog 148 #[.int .i64 n, .pointer (some a), .pointer (some ⟨bc, 0, none⟩)] w fun e w' => e = .returned (.bool (storeB xs n)) ∧ Below w.heap.size w w' := by
  obtain ⟨hmax, A, c, rfl, hcap, hcell⟩ := hR
  unfold storeB
  by_cases hb : 0 ≤ n ∧ n < (xs.length : Int)
  · obtain ⟨h0, h1⟩ := hb
    obtain ⟨k, rfl⟩ := Int.eq_ofNat_of_zero_le h0
    have hk : k < xs.length := by omega
    obtain ⟨b, off, rfl, hcl⟩ := hcell.2 (by omega)
    have hc1 : w.cell? ⟨b, off + k * 4 + 1, none⟩ = some (.int .u8 xs[k].cls) := hcl k hk 1 _ rfl
    clear hcl hcell
    have hv : xs[(k : Int).toNat]? = some xs[k] := by simp [hk]
    rw [hv]
    have hlt1 : b < w.heap.size := World.block_lt_of_cell? w ⟨b, _, none⟩ hc1
    have hb1 : belowB xs.length k = true := by simp [belowB]; omega
    rw [hb1]
    have hcA : (w.alloc (.cells #[.int .i64 (xs.length : Int)] 3)).cell? ⟨w.heap.size, 0, none⟩ = some (.int .i64 (xs.length : Int)) := by
      rw [cell_of_row _ _ 0 _ _ (0, 0) (heap_alloc_new w _)]; rfl
    generalize hy : xs[k] = y at *
    clear hy hv
    go_enter Try.func148, Try.ntmps148
    go_wp2_with (first | (go_at_call 145; refine (below_mk _ _).mono ?_; rintro e w' ⟨rfl, rfl⟩) | (go_at_call 146; refine (below_any _ _ _ _ hcA).mono ?_; rintro e w' ⟨rfl, rfl⟩))
    go_ret
    exact ⟨ret_bool (by rw [Bool.eq_iff_iff]; simp), (Below.refl _ _).alloc (Nat.le_refl _) _⟩
  · have hb1 : belowB xs.length n = false := by simp [belowB]; omega
    rw [hb1, Bool.false_and]
    have hcA : (w.alloc (.cells #[.int .i64 (xs.length : Int)] 3)).cell? ⟨w.heap.size, 0, none⟩ = some (.int .i64 (xs.length : Int)) := by
      rw [cell_of_row _ _ 0 _ _ (0, 0) (heap_alloc_new w _)]; rfl
    clear hcell
    go_enter Try.func148, Try.ntmps148
    go_wp2_with (first | (go_at_call 145; refine (below_mk _ _).mono ?_; rintro e w' ⟨rfl, rfl⟩) | (go_at_call 146; refine (below_any _ _ _ _ hcA).mono ?_; rintro e w' ⟨rfl, rfl⟩))
    go_ret
    exact ⟨rfl, (Below.refl _ _).alloc (Nat.le_refl _) _⟩
set_option maxHeartbeats 1000000 in
theorem pin_any (n na : Int) (bs : List Int) (v : Value) (a : Addr) (bc bi : Nat) (w : World) (ha : w.cell? a = some (.func (.func 145) #[] #[])) (hc : w.cell? ⟨bc, 2, none⟩ = some v) (hi : w.cell? ⟨bi, 2, none⟩ = some (.int .i64 na)) (hR : Rd oneU8 1 w v bs)
    (h0 : 0 ≤ na) (h1 : na < bs.length) :
    Calls Try.prog 150 #[.int .i64 n, .pointer (some ⟨bc, 0, none⟩), .pointer (some ⟨bi, 0, none⟩), .pointer (some a)] w fun e w' => e = .returned (.bool (belowB ((pinsOut (bs.getD na.toNat 0)).length : Int) n)) ∧ Below w.heap.size w w' := by
  obtain ⟨hmax, A, c, rfl, hcap, hcell⟩ := hR
  obtain ⟨k, rfl⟩ := Int.eq_ofNat_of_zero_le h0
  have hk : k < bs.length := by omega
  obtain ⟨b, off, rfl, hcl⟩ := hcell.2 (by omega)
  have hc1 : w.cell? ⟨b, off + k, none⟩ = some (.int .u8 bs[k]) := by simpa using hcl k hk 0 _ rfl
  clear hcl hcell
  have hv : bs.getD (k : Int).toNat 0 = bs[k] := by simp [hk]
  rw [hv]
  generalize bs[k] = y at *
  clear hv
  go_enter Try.func150, Try.ntmps150
  go_wp2_with (first | (go_at_call 134; refine (pins_any _ _).mono ?_; rintro e w1 ⟨v1, v2, rfl, ho1, ho2, hb⟩; obtain ⟨hm2, A2, c2, rfl, hcap2, _⟩ := ho2.rd oneU8_len; have ha1 := cell_below hb _ _ ha; clear ho1 ho2) | (go_at_call 145; refine (below_mk _ _).mono ?_; rintro e w' ⟨rfl, rfl⟩) | (go_at_call 146; refine (below_any _ _ _ _ (cell_new _ _ _)).mono ?_; rintro e w' ⟨rfl, rfl⟩))
  go_ret
  exact ⟨rfl, hb.alloc hb.size _⟩
end Go.Proofs.Ytiogpainajokkaa

