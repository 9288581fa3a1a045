/- Contracts of package bytes: Uint, Blob. -/
import Derived.Test.YthiapebodpkamaaShelf
import Derived.Test.YthiapebodpkamaaNum
import Derived.Test.YthiapebodpkamaaGrow
import Derived.Outline
namespace Go.Proofs.Ythiapebodpkamaa
open Go.RowKit
theorem libBitLen (f : Nat) : ∀ n, n < 2 ^ f → Lib.bitLenAux f n = bitLen n := by
  induction f with
  | zero =>
    intro n h
    have : n = 0 := by omega
    subst this
    rw [bitLen_zero]; rfl
  | succ f ih =>
    intro n h
    rw [Lib.bitLenAux]
    by_cases h0 : n = 0
    · rw [if_pos h0, h0, bitLen_zero]
    · rw [if_neg h0, bitLen_succ (by omega), ih (n / 2) (by rw [Nat.pow_succ] at h; omega)]
      omega
theorem digits_any (n : Nat) (hn : n ≤ 18446744073709551615) (w : World) : Calls Try.prog 82 #[.int .u64 n] w fun e w' => e = .returned (.int .i64 (digitsOf n)) ∧ w = w' := by
  have hl := bitLen_le 64 n (by omega)
  have hb : Lib.bitLen n = bitLen n := libBitLen 64 n (by omega)
  have hd : (digitsOf n : Int) = max (((bitLen n : Int) + 6) / 7) 1 := by unfold digitsOf; omega
  generalize bitLen n = L at hl hb hd
  rw [hd]
  have h0 : (0 : Int) ≤ (n : Int) := by omega
  have h1 : (n : Int) ≤ 18446744073709551615 := by omega
  have HB := Fact.mk hb
  have H1 := Fact.mk h1
  clear hd hb h1 hn
  go_enter Try.func82, Try.ntmps82
  go_wp2_with (go_at_call 92; refine (Try.bits_Len64 _ _ h0 H1.out).mono ?_; rw [Int.toNat_natCast, HB.out]; rintro e w' ⟨rfl, hw⟩; subst hw)
  go_ret
  exact ⟨ret_int (by congr 2; omega), rfl⟩
theorem pow_7 (k : Nat) (n : Nat) : (n : Int) / 2 ^ (7 * k) = ((n / 128 ^ k : Nat) : Int) := by
  have : ((2 : Int) ^ 7) ^ k = ((128 ^ k : Nat) : Int) := by rw [Int.natCast_pow]; rfl
  rw [show (2 : Int) ^ (7 * k) = ((2 : Int) ^ 7) ^ k from Int.pow_mul .., this]
  rfl
theorem or_128 : ∀ x : Fin 256, bits BinOp.or IntKind.u8 (x.val : Int) 128 = ((x.val % 128 + 128 : Nat) : Int) := by decide +kernel
theorem low_is (n k : Nat) : bits BinOp.or IntKind.u8 ((n : Int) / 2 ^ (7 * k) % 256) 128 = ((n / 128 ^ k % 128 + 128 : Nat) : Int) := by
  rw [pow_7]
  generalize n / 128 ^ k = q
  have h := or_128 ⟨q % 256, Nat.mod_lt _ (by decide)⟩
  have e : ((q : Nat) : Int) % 256 = ((q % 256 : Nat) : Int) := by omega
  rw [e]
  refine h.trans ?_
  show ((q % 256 % 128 + 128 : Nat) : Int) = _
  omega
theorem high_is (n k : Nat) (h : n / 128 ^ k < 128) : (n : Int) / 2 ^ (7 * k) % 256 = ((n / 128 ^ k : Nat) : Int) := by
  rw [pow_7]
  generalize n / 128 ^ k = q at h
  omega
theorem lows_length (n k : Nat) : (lows n k).length = k := by
  induction k with
  | zero => rfl
  | succ k ih => rw [lows, List.length_append, ih]; rfl
theorem Try.infoByte : (Try.prog.info? 5).map (fun i => (i.zero, i.size, i.bytes)) = some (some (.int .u8 0), 1, 1) := by kernel_rfl
set_option maxHeartbeats 2000000 in
set_option maxRecDepth 100000 in
theorem uint_any (base : Nat) (v : Value) (xs : List Int) (n : Nat) (hn : n ≤ 18446744073709551615) (w : World) (ho : Own 5 1 oneU8 w base v xs) (hb : base ≤ w.heap.size) (hl : xs.length + 10 ≤ 140737488355328) :
    Calls Try.prog 54 #[v, .int .u64 n] w fun e w' => ∃ v', e = .returned v' ∧ Own 5 1 oneU8 w' base v' (xs ++ uintB n) ∧ Row v w v' w' := by
  obtain ⟨i0, hi, hz0, hz1, hz2⟩ := info_parts Try.infoByte
  have hd := digitsOf_le (n := n) (by omega)
  have hd1 := digitsOf_pos n
  have hX := uintB_lows n
  have HX := Fact.mk hX
  have hlast := last_lt n
  have HL := Fact.mk hlast
  have HN := Fact.mk hn
  generalize hD : digitsOf n = D at hd hd1 HX HL
  obtain ⟨m, rfl⟩ : ∃ m, D = m + 1 := ⟨D - 1, by omega⟩
  rw [Nat.add_sub_cancel] at HX HL
  have HD := Fact.mk hD
  have HO := Fact.mk ho
  clear hX hlast hn hD ho
  go_enter Try.func54, Try.ntmps54
  go_wp2_with (go_at_call 82; refine (digits_any n HN.out _).mono ?_; rw [HD.out]; rintro e w' ⟨rfl, rfl⟩)
  go_loopw [0, 11] (fun s i wr => ∃ k : Nat, k ≤ m ∧ i = .int .i64 k ∧ Fact (Own 5 1 oneU8 wr base s (xs ++ lows n k)) ∧ Fact (Row v w s wr)) (fun _ i _ => m - (intOf i).toNat)
  case atStart => exact ⟨0, Nat.zero_le _, rfl, ⟨by rw [lows, List.append_nil]; exact HO.out⟩, ⟨Row.refl _ _⟩⟩
  case round =>
    obtain ⟨k, hk, rfl, hown, hgr⟩ := hrel
    by_cases hlt : k < m
    · have hy := low_is n k
      have HY := Fact.mk hy
      clear hy
      go_wp2_with (at_builtin; refine wpList_pushR rfl _ _ 62 rfl base 5 i0 (.int .u8 0) 1 1 Try.underlying62 hi hz0 hz1 hz2 rfl (by decide) (by decide) oneU8 _ _ rfl hown.out (bits BinOp.or IntKind.u8 ((n : Int) / 2 ^ (7 * k) % 256) 128) rfl rfl (by simp [oneU8]; rfl) ?c1 (Nat.le_trans hb hgr.out.g.size) ?_; case c1 => (rw [List.length_append, lows_length]; omega))
      intro v' w' ho' hg'
      go_wp2_with fail
      go_roundw
      case rel => exact ⟨k + 1, by omega, by go_num, ⟨by rw [lows, ← HY.out]; exact ho'⟩, ⟨hgr.out.trans hg'⟩⟩
      case measure => simp [intOf]; omega
    · obtain rfl : k = m := by omega
      have hy := high_is n k HL.out
      have HY := Fact.mk hy
      clear hy
      go_wp2_with (at_builtin; refine wpList_pushR rfl _ _ 62 rfl base 5 i0 (.int .u8 0) 1 1 Try.underlying62 hi hz0 hz1 hz2 rfl (by decide) (by decide) oneU8 _ _ rfl hown.out ((n : Int) / 2 ^ (7 * k) % 256) rfl rfl (by simp [oneU8]; rfl) ?c1 (Nat.le_trans hb hgr.out.g.size) ?_; case c1 => (rw [List.length_append, lows_length]; omega))
      intro v' w' ho' hg'
      go_wp2_with fail
      go_ret
      exact ⟨v', rfl, by rw [HX.out, ← HY.out]; exact ho', hgr.out.trans hg'⟩
end Go.Proofs.Ythiapebodpkamaa

