/- Contracts of code.Range and code.types. -/
import Derived.Test.YthiapebodpkamaaProg
import Derived.Test.YthiapebodpkamaaWords
import Derived.Outline
import Derived.BigQuiet
namespace Go.Proofs.Ythiapebodpkamaa
open Go.RowKit
def rangeOf (t : Int) : Int × Int := if t = 1 then (0, 1) else if t = 2 then (-128, 127) else if t = 3 then (-32768, 32767) else if t = 4 then (-2147483648, 2147483647) else if t = 5 then (0, 4294967295) else (0, 0)
theorem range_any (t : Int) (w : World) : Calls Try.prog 14 #[.int .u8 t] w fun e w' => e = .returned (.tuple #[.int .i64 (rangeOf t).1, .int .i64 (rangeOf t).2]) ∧ w = w' := by
  unfold rangeOf
  go_enter Try.func14, Try.ntmps14
  go_wp2
  all_goals go_ret2
  all_goals (refine ⟨?_, rfl⟩; simp_all)
/-! ### types, Pins -/
def typeOf (c : UInt8) : List Int := if c = 98 then [1] else if c = 100 then [4] else if c = 117 then [5] else []
def typesOf (l : List UInt8) : List Int := l.flatMap typeOf
theorem typesOf_snoc (l : List UInt8) (c : UInt8) : typesOf (l ++ [c]) = typesOf l ++ typeOf c := by simp [typesOf]
theorem typesOf_len (l : List UInt8) : (typesOf l).length ≤ l.length := by
  induction l with
  | nil => simp [typesOf]
  | cons c l ih =>
    have : (typeOf c).length ≤ 1 := by
      unfold typeOf
      repeat' split
      all_goals simp
    simp only [typesOf, List.flatMap_cons, List.length_append, List.length_cons] at *
    omega
theorem take_snoc (s : ByteArray) (k : Nat) (h : k < s.size) : s.data.toList.take (k + 1) = s.data.toList.take k ++ [s[k]] := by
  rw [List.take_succ_eq_append_getElem (by simpa using h)]; rfl
theorem byte_ne {c : UInt8} {n : Nat} (h : c ≠ UInt8.ofNat n) (hn : n < 256) : ((c.toNat : Int) == (n : Int)) = false := by
  rw [beq_eq_false_iff_ne]
  intro e
  apply h
  apply UInt8.toNat_inj.1
  have : (UInt8.ofNat n).toNat = n := by simp; omega
  omega
theorem Try.infoType : (Try.prog.info? 22).map (fun i => (i.zero, i.size, i.bytes)) = some (some (.int .u8 0), 1, 1) := by kernel_rfl
set_option maxHeartbeats 1000000 in
set_option maxRecDepth 100000 in
theorem types_any (s : ByteArray) (w : World) (hs : s.size ≤ 140737488351232) : Calls Try.prog 64 #[.string s] w fun e w' => ∃ v, e = .returned v ∧ Own 22 1 oneU8 w' w.heap.size v (typesOf s.data.toList) ∧ Below w.heap.size w w' := by
  obtain ⟨i0, hi, hz0, hz1, hz2⟩ := info_parts Try.infoType
  go_enter Try.func64, Try.ntmps64
  go_wp2
  go_loopw [3, 7] (fun v i wr => ∃ k : Nat, k ≤ s.size ∧ i = .int .i64 k ∧ Fact (Own 22 1 oneU8 wr w.heap.size v (typesOf (s.data.toList.take k))) ∧ Fact (Below w.heap.size w wr)) (fun _ i _ => s.size - (intOf i).toNat)
  case atStart => exact ⟨0, Nat.zero_le _, rfl, ⟨Own.nil _ _ _ _ _⟩, ⟨Below.refl _ _⟩⟩
  case round =>
    obtain ⟨k, hk, rfl, hown, hb⟩ := hrel
    by_cases hlt : k < s.size
    · have hsn := typesOf_snoc (s.data.toList.take k) s[k]
      have hlen := typesOf_len (s.data.toList.take k)
      have hlk : (s.data.toList.take k).length = k := by simp; omega
      rw [hlk] at hlen
      rw [← take_snoc s k hlt] at hsn
      have HS := Fact.mk hsn
      clear hsn hlk
      rcases (show s[k] = 98 ∨ s[k] = 100 ∨ s[k] = 117 ∨ (s[k] ≠ 98 ∧ s[k] ≠ 100 ∧ s[k] ≠ 117) by
        by_cases h1 : s[k] = 98
        · exact .inl h1
        by_cases h2 : s[k] = 100
        · exact .inr (.inl h2)
        by_cases h3 : s[k] = 117
        · exact .inr (.inr (.inl h3))
        exact .inr (.inr (.inr ⟨h1, h2, h3⟩))) with hc | hc | hc | ⟨hc1, hc2, hc3⟩
      · have h0 : ((s[k].toNat : Int) == 98) = true := by rw [hc]; rfl
        have hN : typeOf s[k] = [1] := by rw [hc]; rfl
        rw [hN] at HS
        clear hc hN
        go_wp2_with (at_builtin; refine wpList_push rfl _ _ 50 rfl w.heap.size 22 i0 (.int .u8 0) 1 1 Try.underlying50 hi hz0 hz1 hz2 rfl (by decide) (by decide) oneU8 _ _ rfl hown.out 1 rfl rfl (by simp [oneU8]; rfl) ?c1 hb.out.size ?_; case c1 => omega)
        intro v' w' ho' _ hb'
        go_wp2
        go_roundw
        case rel => exact ⟨k + 1, by omega, by go_num, ⟨by rw [HS.out]; exact ho'⟩, ⟨hb.out.trans hb'⟩⟩
        case measure => simp [intOf]; omega
      · have h0 : ((s[k].toNat : Int) == 98) = false := by rw [hc]; rfl
        have h1 : ((s[k].toNat : Int) == 100) = true := by rw [hc]; rfl
        have hN : typeOf s[k] = [4] := by rw [hc]; rfl
        rw [hN] at HS
        clear hc hN
        go_wp2_with (at_builtin; refine wpList_push rfl _ _ 50 rfl w.heap.size 22 i0 (.int .u8 0) 1 1 Try.underlying50 hi hz0 hz1 hz2 rfl (by decide) (by decide) oneU8 _ _ rfl hown.out 4 rfl rfl (by simp [oneU8]; rfl) ?c1 hb.out.size ?_; case c1 => omega)
        intro v' w' ho' _ hb'
        go_wp2
        go_roundw
        case rel => exact ⟨k + 1, by omega, by go_num, ⟨by rw [HS.out]; exact ho'⟩, ⟨hb.out.trans hb'⟩⟩
        case measure => simp [intOf]; omega
      · have h0 : ((s[k].toNat : Int) == 98) = false := by rw [hc]; rfl
        have h1 : ((s[k].toNat : Int) == 100) = false := by rw [hc]; rfl
        have h2 : ((s[k].toNat : Int) == 117) = true := by rw [hc]; rfl
        have hN : typeOf s[k] = [5] := by rw [hc]; rfl
        rw [hN] at HS
        clear hc hN
        go_wp2_with (at_builtin; refine wpList_push rfl _ _ 50 rfl w.heap.size 22 i0 (.int .u8 0) 1 1 Try.underlying50 hi hz0 hz1 hz2 rfl (by decide) (by decide) oneU8 _ _ rfl hown.out 5 rfl rfl (by simp [oneU8]; rfl) ?c1 hb.out.size ?_; case c1 => omega)
        intro v' w' ho' _ hb'
        go_wp2
        go_roundw
        case rel => exact ⟨k + 1, by omega, by go_num, ⟨by rw [HS.out]; exact ho'⟩, ⟨hb.out.trans hb'⟩⟩
        case measure => simp [intOf]; omega
      · have h0 := byte_ne (n := 98) hc1 (by decide)
        have h1 := byte_ne (n := 100) hc2 (by decide)
        have h2 := byte_ne (n := 117) hc3 (by decide)
        have hN : typeOf s[k] = [] := by simp [typeOf, hc1, hc2, hc3]
        rw [hN, List.append_nil] at HS
        clear hc1 hc2 hc3 hN
        go_wp2
        go_roundw
        case rel => exact ⟨k + 1, by omega, by go_num, ⟨by rw [HS.out]; exact hown.out⟩, hb⟩
        case measure => simp [intOf]; omega
    · go_wp2
      go_ret
      have := hown.out
      rw [List.take_of_length_le (by simp; omega)] at this
      exact ⟨_, rfl, this, hb.out⟩
end Go.Proofs.Ythiapebodpkamaa

