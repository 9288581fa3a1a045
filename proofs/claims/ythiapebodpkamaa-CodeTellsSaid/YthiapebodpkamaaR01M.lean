/- Contracts of blockhouseref01.Varint, behind, Uint, Blob. -/
import Derived.Test.YthiapebodpkamaaReadC
import Derived.Test.YthiapebodpkamaaGetB
import Derived.Laws.MakeOwn
import Derived.Deep.RegionHeld3
import Derived.Deep.DeepCutAuto
import Derived.Deep.CutBlock
import Derived.Test.YthiapebodpkamaaSameC
namespace Go.Proofs.Ythiapebodpkamaa
open Go.RowKit
theorem rd_row {α : Type} (enc : α → List Value) (k : Nat) (hk : ∀ x, (enc x).length = k) {w : World} {g : Nat} (xs : List α) {T : TypeId} {fr : Nat × Nat} (h : xs.length ≤ 9223372036854775807) (hg : w.heap[g]? = some (.cells (xs.flatMap enc).toArray T fr)) : Rd enc k w (.slice (some ⟨g, 0, none⟩) xs.length xs.length) xs := by
  refine ⟨h, _, _, rfl, Nat.le_refl _, (fun h => by cases h), fun _ => ⟨g, 0, rfl, fun j hj i u hu => ?_⟩⟩
  rw [cell_of_row _ _ _ _ _ fr hg]
  have := flatMap_at hk xs j hj i u hu
  simpa using this
theorem rdr_slice0 {w : World} {v : Value} {l : List Int} (h : Rd oneU8 1 w v l) : ∃ A n c, v = .slice A n c := by obtain ⟨_, A, c, h, _⟩ := h; exact ⟨A, _, c, h⟩
/-- Bytes that a call has made. -/
def BytesRd (w : World) (l : List Int) (e : Ending) (w' : World) : Prop := ∃ v, e = .returned v ∧ Rd oneU8 1 w' v l ∧ Below w.heap.size w w'
/-- On the way through Varint. -/
structure VarSt (w W : World) (out : Value) (ls : List Int) (n m : Nat) : Prop where
  own : Own 5 1 oneU8 W w.heap.size out ls
  bel : Below w.heap.size w W
  eq : uintB n = ls ++ uintB m
  len : ls.length ≤ 10
theorem uint_len {n : Nat} (h : n < 18446744073709551616) : 1 ≤ (uintB n).length ∧ (uintB n).length ≤ 10 := by
  have h1 := uB_len (n : Int) ⟨by omega, by omega⟩
  rw [uB_nat] at h1
  obtain ⟨i, x, e, _, _⟩ := uint_digs n
  refine ⟨?_, h1⟩
  rw [e]; simp
theorem VarSt.more {w W W' : World} {out out' : Value} {ls : List Int} {n m : Nat} (hn : n < 18446744073709551616) (h : VarSt w W out ls n m) (hm : 128 ≤ m) {b : Int} (hb : b = ((m % 128 + 128 : Nat) : Int)) (ho : Own 5 1 oneU8 W' w.heap.size out' (ls ++ [b])) (hg : W.grownBy W' out.ownBlock) : VarSt w W' out' (ls ++ [b]) n (m / 128) := by
  have e : uintB n = (ls ++ [b]) ++ uintB (m / 128) := by rw [h.eq, uintB_large (by omega), hb]; simp
  refine ⟨ho, h.bel.grown hg h.bel.size (fun k hk => (World.ownsRow.lt h.own k hk).1), e, ?_⟩
  have := (uint_len hn).2
  rw [e, List.length_append] at this
  omega
set_option maxHeartbeats 2000000 in
set_option maxRecDepth 100000 in
theorem varint_any (n : Nat) (hn : n < 18446744073709551616) (w : World) :
    Calls Try.prog 84 #[.int .u64 (n : Int)] w (BytesRd w (uintB n)) := by
  obtain ⟨i0, hi, hz0, hz1, hz2⟩ := byteInfo
  go_enter Try.func84, Try.ntmps84
  by_cases h : n < 128
  · have hu := Fact.mk (uintB_small h)
    have hw : IntKind.u8.wrap (n : Int) = (n : Int) := by rw [IntKind.wrap_u8]; omega
    clear hi hz0 hz1 hz2
    go_wp2
    go_ret
    rw [hu.out]
    exact ⟨_, rfl, rd_new oneU8 1 oneU8_len w [(n : Int)] _ (by simp), (one_block w _).1⟩
  · have h1 : 128 ≤ n := by omega
    have hw : IntKind.u8.wrap (128 + (n : Int) % 128) = 128 + (n : Int) % 128 := by rw [IntKind.wrap_u8]; omega
    have HV : Fact (VarSt w (w.alloc (.cells #[.int .u8 (128 + (n : Int) % 128)] 5)) (.slice (some ⟨w.heap.size, 0, none⟩) 1 1) [128 + (n : Int) % 128] n (n / 128)) := ⟨⟨⟨by simp [oneU8], .inr ⟨w.heap.size, 1, _, rfl, Nat.le_refl _, heap_alloc_new w _, by simp, by decide, by simp, by simp [oneU8]⟩⟩, (one_block w _).1, by rw [uintB_large (by omega)]; simp; omega, by simp⟩⟩
    go_wp2_with fail
    go_loopw [0, 3] (fun s o wr => ∃ (m : Nat) (ls : List Int), m < 18446744073709551616 ∧ s = .int .u64 m ∧ Fact (VarSt w wr o ls n m)) (fun s _ _ => (intOf s).toNat)
    case atStart => exact ⟨n / 128, _, by omega, by simp, HV⟩
    case round =>
      clear HV hw
      obtain ⟨m, ls, hm, rfl, V⟩ := hrel
      have hls := V.out.len
      have hv := V.out.own
      obtain ⟨A, c, rfl⟩ := hv.slice2
      have O := Fact.mk hv
      have HB := Fact.mk V.out.bel.size
      clear hv
      by_cases h2 : 128 ≤ m
      · have hw : IntKind.u8.wrap (128 + (m : Int) % 128) = 128 + (m : Int) % 128 := by rw [IntKind.wrap_u8]; omega
        go_wp2_with (at_builtin; refine wpList_pushR rfl _ _ 62 rfl w.heap.size 5 i0 (.int .u8 0) 1 1 Try.underlying62 hi hz0 hz1 hz2 rfl (by decide) (by decide) oneU8 _ ls rfl O.out (128 + (m : Int) % 128) rfl rfl (oneU8_one _) (by omega) HB.out ?_)
        intro v' W' ho' hr'
        have V2 := Fact.mk (V.out.more hn h2 (by omega) ho' hr'.g)
        clear ho' hr'
        go_wp2
        go_roundw
        case rel => exact ⟨m / 128, _, by omega, by simp, V2⟩
        case measure => simp [intOf]; omega
      · have h3 : m < 128 := by omega
        have hw : IntKind.u8.wrap (m : Int) = (m : Int) := by rw [IntKind.wrap_u8]; omega
        go_wp2_with (at_builtin; refine wpList_pushR rfl _ _ 62 rfl w.heap.size 5 i0 (.int .u8 0) 1 1 Try.underlying62 hi hz0 hz1 hz2 rfl (by decide) (by decide) oneU8 _ ls rfl O.out (m : Int) rfl rfl (oneU8_one _) (by omega) HB.out ?_)
        intro v' W' ho' hr'
        have R2 : Fact (BytesRd w (uintB n) (.returned v') W') := ⟨v', rfl, by rw [V.out.eq, uintB_small h3]; exact ho'.rd oneU8_len, V.out.bel.grown hr'.g V.out.bel.size (fun k hk => (World.ownsRow.lt O.out k hk).1)⟩
        clear ho' hr'
        go_wp2
        go_ret
        exact R2.out
/-! ### bytes behind bytes -/
theorem take_set {xs ys : List Int} {i : Nat} (h : xs.take i = ys.take i) (hx : i < xs.length) (hy : i < ys.length) : (xs.set i ys[i]).take (i + 1) = ys.take (i + 1) := by
  rw [List.take_succ_eq_append_getElem (by simpa using hx), List.take_succ_eq_append_getElem hy, List.getElem_set_self, List.take_set_of_le (Nat.le_refl _), h]
theorem flat_u8 (xs : List Int) : xs.flatMap oneU8 = xs.map (fun x => Value.int .u8 x) := by
  induction xs with
  | nil => rfl
  | cons x l ih => rw [List.flatMap_cons, ih]; rfl
/-- On the way: the first i bytes stand. -/
structure BhSt (w W : World) (g : Nat) (all : List Int) (i : Nat) (xs : List Int) : Prop where
  row : W.heap[g]? = some (.cells (xs.flatMap oneU8).toArray 5 (0, 0))
  len : xs.length = all.length
  bel : Below w.heap.size w W
  lo : w.heap.size ≤ g
  tk : xs.take i = all.take i
theorem BhSt.put {w W : World} {g : Nat} {all : List Int} {i : Nat} {xs : List Int} (h : BhSt w W g all i xs) (hi : i < all.length) {x : Int} (hx : all[i] = x) : BhSt w (W.setCell ⟨g, i, none⟩ (.int .u8 x)) g all (i + 1) (xs.set i x) := by
  subst hx
  refine ⟨?_, by rw [List.length_set]; exact h.len, h.bel.setCell (p := ⟨g, i, none⟩) h.lo _, h.lo, take_set h.tk (by rw [h.len]; exact hi) hi⟩
  rw [heap_setCell_same W g i _ _ _ h.row]
  congr 2
  rw [flat_u8, flat_u8]
  simp
theorem BhSt.cell {w W : World} {g : Nat} {all : List Int} {i : Nat} {xs : List Int} (h : BhSt w W g all i xs) (hi : i < all.length) : ∃ x, W.cell? ⟨g, i, none⟩ = some (.int .u8 x) ∧ W.frozen? ⟨g, i, none⟩ = false := by
  have hl : i < xs.length := by rw [h.len]; exact hi
  refine ⟨xs[i], ?_, frozen_of_row W g _ _ _ h.row⟩
  rw [cell_of_row _ _ _ _ _ _ h.row, flat_u8]
  simp [hl]
theorem BhSt.all {w W : World} {g : Nat} {all : List Int} {i : Nat} {xs : List Int} (h : BhSt w W g all i xs) (hi : i = all.length) : xs = all := by
  have := h.tk
  rw [hi, List.take_length, ← h.len, List.take_length] at this
  exact this
theorem made_u8 (n : Nat) : madeCells #[.int .u8 0] (n * 1) = ((List.replicate n (0 : Int)).flatMap oneU8).toArray := by
  rw [flat_u8, Nat.mul_one]
  apply Array.ext_getElem?
  intro i
  unfold madeCells
  rw [Array.getElem?_map, Array.getElem?_range]
  by_cases h : i < n
  · rw [if_pos h]
    simp [h, Nat.mod_one]
  · rw [if_neg h]
    simp [h]
theorem run_bytes (n : Nat) (h : n ≤ 10000000) (W : World) : (Instr.makeSlice 62 (.int .i64 (n : Int)) (.int .i64 (n : Int))).run Try.prog W = .ok (.slice (some ⟨W.heap.size, 0, none⟩) n n) (W.alloc (.cells ((List.replicate n (0 : Int)).flatMap oneU8).toArray 5)) := by
  obtain ⟨i, hi, hz0, hz1, hz2⟩ := byteInfo
  have hr := run_make (P := Try.prog) W 62 5 i _ Try.underlying62 hi hz0 .i64 .i64 n n (by omega) (Int.le_refl _) (by rw [hz2]; omega) (by omega)
  rw [hr]
  simp only [Int.toNat_natCast, hz1]
  rw [show (Value.int .u8 0).cells = #[.int .u8 0] from rfl, made_u8]
set_option maxHeartbeats 2000000 in
set_option maxRecDepth 100000 in
theorem behind_any (w : World) (v1 v2 : Value) (xs ys : List Int) (h1 : Rd oneU8 1 w v1 xs) (h2 : Rd oneU8 1 w v2 ys) (hl : xs.length + ys.length ≤ 10000000) :
    Calls Try.prog 83 #[v1, v2] w (BytesRd w (xs ++ ys)) := by
  obtain ⟨l1, A1, c1, rfl, hc1, _, r1⟩ := id h1
  obtain ⟨l2, A2, c2, rfl, hc2, _, r2⟩ := id h2
  obtain ⟨n, hn⟩ : ∃ n, xs.length = n := ⟨_, rfl⟩
  obtain ⟨m, hm⟩ : ∃ m, ys.length = m := ⟨_, rfl⟩
  have hmk : ∀ W, (Instr.makeSlice 62 (.int .i64 ((n : Int) + (m : Int))) (.int .i64 ((n : Int) + (m : Int)))).run Try.prog W = .ok (.slice (some ⟨W.heap.size, 0, none⟩) (n + m) (n + m)) (W.alloc (.cells ((List.replicate (n + m) (0 : Int)).flatMap oneU8).toArray 5)) := fun W => by
    have := run_bytes (n + m) (by omega) W
    rwa [show ((n + m : Nat) : Int) = (n : Int) + (m : Int) by omega] at this
  have HS : Fact (BhSt w (w.alloc (.cells ((List.replicate (n + m) (0 : Int)).flatMap oneU8).toArray 5)) w.heap.size (xs ++ ys) 0 (List.replicate (n + m) 0)) := ⟨⟨heap_alloc_new w _, by simp [hn, hm], (one_block w _).1, Nat.le_refl _, rfl⟩⟩
  have H1 := Fact.mk h1
  have H2 := Fact.mk h2
  have HN := Fact.mk hn
  have HM := Fact.mk hm
  have hl2 : n + m ≤ 10000000 := by omega
  rw [hn, hm]
  rw [hn] at H1
  rw [hm] at H2
  clear h1 h2 r1 r2 hl hc1 hc2 l1 l2 hn hm
  go_enter Try.func83, Try.ntmps83
  go_wp2_with fail
  clear hmk
  generalize w.alloc (.cells ((List.replicate (n + m) (0 : Int)).flatMap oneU8).toArray 5) = W0 at *
  go_loopw [6] (fun i wr => ∃ (k : Nat) (zs : List Int), k ≤ n ∧ i = .int .i64 k ∧ Fact (BhSt w wr w.heap.size (xs ++ ys) k zs)) (fun i _ => n - (intOf i).toNat)
  case atStart => exact ⟨0, _, Nat.zero_le _, rfl, HS⟩
  case round =>
    clear HS
    obtain ⟨k, zs, hk, rfl, B⟩ := hrel
    by_cases hlt : k < n
    · obtain ⟨x, hx⟩ : ∃ x, xs[k]'(by rw [HN.out]; exact hlt) = x := ⟨_, rfl⟩
      have hkl : k < (xs ++ ys).length := by rw [List.length_append, HN.out]; omega
      have B2 : Fact (BhSt w (wr.setCell ⟨w.heap.size, k, none⟩ (.int .u8 x)) w.heap.size (xs ++ ys) (k + 1) (zs.set k x)) := ⟨B.out.put hkl (by rw [List.getElem_append_left (by rw [HN.out]; exact hlt)]; exact hx)⟩
      obtain ⟨y, c0, f0⟩ := B.out.cell hkl
      obtain ⟨b, o, hA, cx⟩ : ∃ b o, A1 = some ⟨b, o, none⟩ ∧ wr.cell? ⟨b, o + k, none⟩ = some (.int .u8 x) := by
        obtain ⟨_, A', c', e, _, _, h3⟩ := H1.out.below B.out.bel
        injection e with e1 _ _
        subst e1
        obtain ⟨b, o, e2, hc⟩ := h3 (by rw [HN.out]; omega)
        refine ⟨b, o, e2, ?_⟩
        have := hc k (by rw [HN.out]; exact hlt) 0 (.int .u8 x) (by rw [hx]; rfl)
        simpa using this
      subst hA
      have i1 : (k : Int) < (n : Int) := by omega
      have i2 : (k : Int) < (n : Int) + (m : Int) := by omega
      have i3 : k < n + m := by omega
      clear B hx hkl
      go_wp2_with fail
      go_roundw
      case rel => exact ⟨k + 1, _, by omega, by go_num, B2⟩
      case measure => simp [intOf]; omega
    · obtain rfl : k = n := by omega
      clear hlt hk
      go_wp2_with fail
      go_loopw [7] (fun i wr => ∃ (j : Nat) (zs : List Int), j ≤ m ∧ i = .int .i64 j ∧ Fact (BhSt w wr w.heap.size (xs ++ ys) (k + j) zs)) (fun i _ => m - (intOf i).toNat)
      case atStart => exact ⟨0, _, Nat.zero_le _, rfl, B⟩
      case round =>
        clear B
        obtain ⟨j, zs, hj, rfl, B⟩ := hrel
        by_cases hlt : j < m
        · obtain ⟨x, hx⟩ : ∃ x, ys[j]'(by rw [HM.out]; exact hlt) = x := ⟨_, rfl⟩
          have hkl : k + j < (xs ++ ys).length := by rw [List.length_append, HN.out, HM.out]; omega
          have B2 : Fact (BhSt w (wr.setCell ⟨w.heap.size, k + j, none⟩ (.int .u8 x)) w.heap.size (xs ++ ys) (k + (j + 1)) (zs.set (k + j) x)) := ⟨B.out.put hkl (by rw [List.getElem_append_right (by rw [HN.out]; omega)]; rw [← hx]; congr 1; rw [HN.out]; omega)⟩
          obtain ⟨y, c0, f0⟩ := B.out.cell hkl
          obtain ⟨b, o, hA, cx⟩ : ∃ b o, A2 = some ⟨b, o, none⟩ ∧ wr.cell? ⟨b, o + j, none⟩ = some (.int .u8 x) := by
            obtain ⟨_, A', c', e, _, _, h3⟩ := H2.out.below B.out.bel
            injection e with e1 _ _
            subst e1
            obtain ⟨b, o, e2, hc⟩ := h3 (by rw [HM.out]; omega)
            refine ⟨b, o, e2, ?_⟩
            have := hc j (by rw [HM.out]; exact hlt) 0 (.int .u8 x) (by rw [hx]; rfl)
            simpa using this
          subst hA
          have i1 : (j : Int) < (m : Int) := by omega
          have i2 : (k : Int) + (j : Int) < (k : Int) + (m : Int) := by omega
          have i3 : k + j < k + m := by omega
          clear B hx hkl
          go_wp2_with fail
          go_roundw
          case rel => exact ⟨j + 1, _, by omega, by go_num, B2⟩
          case measure => simp [intOf]; omega
        · obtain rfl : j = m := by omega
          have R2 : Fact (BytesRd w (xs ++ ys) (.returned (.slice (some ⟨w.heap.size, 0, none⟩) (k + j) (k + j))) wr) := ⟨_, rfl, by
            have hz := B.out.all (by rw [List.length_append, HN.out, HM.out])
            have := rd_row oneU8 1 oneU8_len zs (by rw [B.out.len, List.length_append, HN.out, HM.out]; omega) B.out.row
            rw [B.out.len, List.length_append, HN.out, HM.out, hz] at this
            exact this, B.out.bel⟩
          clear hlt hj
          go_wp2_with fail
          go_ret
          exact R2.out
set_option maxHeartbeats 1000000 in
set_option maxRecDepth 100000 in
theorem rUint_any (w : World) (v : Value) (l : List Int) (h : Rd oneU8 1 w v l) (hl : l.length ≤ 9000000) (n : Nat) (hn : n < 18446744073709551616) :
    Calls Try.prog 56 #[v, .int .u64 (n : Int)] w (BytesRd w (l ++ uintB n)) := by
  have HV := Fact.mk (varint_any n hn w)
  have H := Fact.mk h
  have HL := Fact.mk hl
  have U := Fact.mk (uint_len hn).2
  obtain ⟨A, q, c, rfl⟩ := rdr_slice0 h
  clear h hl hn
  go_enter Try.func56, Try.ntmps56
  go_wp2_with fail
  refine HV.out.mono ?_
  rintro e W1 ⟨v1, rfl, r1, b1⟩
  have R1 := Fact.mk r1
  have B1 := Fact.mk b1
  obtain ⟨A2, q2, c2, rfl⟩ := rdr_slice0 r1
  clear r1 b1 HV
  go_wp2_with fail
  refine (behind_any W1 _ _ _ _ (H.out.below B1.out) R1.out (by have := U.out; have := HL.out; omega)).mono ?_
  rintro e W2 ⟨v2, rfl, r2, b2⟩
  have R2 : Fact (BytesRd w (l ++ uintB n) (.returned v2) W2) := ⟨v2, rfl, r2, B1.out.trans (b2.mono B1.out.size)⟩
  clear r2 b2
  go_wp2
  go_ret
  exact R2.out
set_option maxHeartbeats 1000000 in
set_option maxRecDepth 100000 in
theorem rBlob_any (w : World) (v vs : Value) (l s : List Int) (h : Rd oneU8 1 w v l) (hs : Rd oneU8 1 w vs s) (hl : l.length ≤ 8000000) (hsl : s.length ≤ 1000000) :
    Calls Try.prog 55 #[v, vs] w (BytesRd w (l ++ (uintB s.length ++ s))) := by
  have HV := Fact.mk (varint_any s.length (by omega) w)
  have H := Fact.mk h
  have HS := Fact.mk hs
  have HL := Fact.mk (And.intro hl hsl)
  have U := Fact.mk (uint_len (n := s.length) (by omega)).2
  obtain ⟨A, q, c, rfl⟩ := rdr_slice0 h
  obtain ⟨A', c', rfl⟩ : ∃ A c, vs = .slice A s.length c := by obtain ⟨_, A, c, h, _⟩ := hs; exact ⟨A, c, h⟩
  have hcv : IntKind.u64.wrap (s.length : Int) = (s.length : Int) := by rw [IntKind.wrap_u64]; omega
  clear h hl hs
  go_enter Try.func55, Try.ntmps55
  go_wp2_with fail
  refine HV.out.mono ?_
  rintro e W1 ⟨v1, rfl, r1, b1⟩
  have R1 := Fact.mk r1
  have B1 := Fact.mk b1
  obtain ⟨A2, q2, c2, rfl⟩ := rdr_slice0 r1
  clear r1 b1 HV
  go_wp2_with fail
  refine (behind_any W1 _ _ _ _ (H.out.below B1.out) R1.out (by have := U.out; have := HL.out; omega)).mono ?_
  rintro e W2 ⟨v2, rfl, r2, b2⟩
  have R2 := Fact.mk r2
  have B2 := Fact.mk (B1.out.trans (b2.mono B1.out.size))
  obtain ⟨A3, q3, c3, rfl⟩ := rdr_slice0 r2
  clear r2 b2
  go_wp2_with fail
  refine (behind_any W2 _ _ _ _ R2.out (HS.out.below B2.out) (by have := U.out; have := HL.out; rw [List.length_append]; omega)).mono ?_
  rintro e W3 ⟨v3, rfl, r3, b3⟩
  have R3 : Fact (BytesRd w (l ++ (uintB s.length ++ s)) (.returned v3) W3) := ⟨v3, rfl, by rw [← List.append_assoc]; exact r3, B2.out.trans (b3.mono B2.out.size)⟩
  clear r3 b3
  go_wp2
  go_ret
  exact R3.out
end Go.Proofs.Ythiapebodpkamaa

namespace Go.Proofs.Ythiapebodpkamaa
open Go.RowKit
def M64 : Nat := 18446744073709551616
theorem valB_take (l : List Int) (hb : Bys l) : ∀ i, (h : i < l.length) → valB (l.take (i + 1)) = valB (l.take i) + 128 ^ i * (l[i] % 128).toNat := by
  induction l with
  | nil => intro i h; simp at h
  | cons b t ih =>
    intro i h
    cases i with
    | zero => simp [valB]
    | succ i =>
      have := ih (fun x hx => hb x (by simp [hx])) i (by simpa using h)
      rw [List.take_succ_cons, List.take_succ_cons, valB, valB, this, List.getElem_cons_succ, Nat.pow_succ, Nat.mul_add, Nat.mul_comm (128 ^ i) 128, Nat.mul_assoc]
      omega
/-- On the way: the number and the unit so far. -/
structure ValSt (l : List Int) (i : Nat) (n u : Int) : Prop where
  n : n = ((valB (l.take i) % M64 : Nat) : Int)
  u : u = ((128 ^ i % M64 : Nat) : Int)
theorem mod_sum (V P d M : Int) : (V % M + (P % M * d) % M) % M = (V + P * d) % M := by simp [Int.add_emod, Int.mul_emod]
theorem mod_mul (P d M : Int) : (P % M * d) % M = (P * d) % M := by simp [Int.mul_emod]
theorem ValSt.step {l : List Int} (hb : Bys l) {i : Nat} {n u x : Int} (h : ValSt l i n u) (hi : i < l.length) (hx : l[i] = x) : ValSt l (i + 1) (IntKind.u64.wrap (n + IntKind.u64.wrap (u * (x % 128)))) (IntKind.u64.wrap (u * 128)) := by
  subst hx
  have hx := hb _ (List.getElem_mem hi)
  obtain ⟨d, hd⟩ : ∃ d : Nat, l[i] % 128 = d := ⟨(l[i] % 128).toNat, by omega⟩
  have e := valB_take l hb i hi
  rw [hd, Int.toNat_natCast] at e
  refine ⟨?_, ?_⟩
  · rw [h.n, h.u, hd, IntKind.wrap_u64, IntKind.wrap_u64, e]
    show _ = (((valB (l.take i) + 128 ^ i * d) % 18446744073709551616 : Nat) : Int)
    show (((valB (l.take i) % 18446744073709551616 : Nat) : Int) + ((128 ^ i % 18446744073709551616 : Nat) : Int) * (d : Int) % 18446744073709551616) % 18446744073709551616 = _
    generalize valB (l.take i) = V
    generalize 128 ^ i = P
    rw [Int.natCast_emod, Int.natCast_emod, Int.natCast_emod, Int.natCast_add, Int.natCast_mul]
    exact mod_sum _ _ _ _
  · rw [h.u, IntKind.wrap_u64]
    show ((128 ^ i % 18446744073709551616 : Nat) : Int) * 128 % 18446744073709551616 = ((128 ^ i * 128 % 18446744073709551616 : Nat) : Int)
    generalize 128 ^ i = P
    rw [Int.natCast_emod, Int.natCast_emod, Int.natCast_mul]
    exact mod_mul _ _ _
set_option maxHeartbeats 2000000 in
set_option maxRecDepth 100000 in
theorem value_any (w : World) (v : Value) (l : List Int) (h : Rd oneU8 1 w v l) (hb : Bys l) :
    Calls Try.prog 96 #[v] w fun e w' => e = .returned (.int .u64 ((valB l % M64 : Nat) : Int)) ∧ w' = w := by
  obtain ⟨hl, A, c, rfl, hc, _, hr⟩ := h
  obtain ⟨q, hq⟩ : ∃ q, l.length = q := ⟨_, rfl⟩
  have R := Fact.mk hr
  have HB := Fact.mk hb
  have HQ := Fact.mk hq
  rw [hq] at hl hc ⊢
  have H0 : Fact (ValSt l 0 0 1) := ⟨⟨rfl, rfl⟩⟩
  clear hr hb hq
  go_enter Try.func96, Try.ntmps96
  go_wp2_with fail
  go_loopw [3, 4, 5] (fun n u i wr => ∃ (k : Nat) (a b : Int), k ≤ q ∧ n = .int .u64 a ∧ u = .int .u64 b ∧ i = .int .i64 k ∧ wr = w ∧ Fact (ValSt l k a b)) (fun _ _ i _ => q - (intOf i).toNat)
  case atStart => exact ⟨0, 0, 1, Nat.zero_le _, rfl, rfl, rfl, rfl, H0⟩
  case round =>
    clear H0
    obtain ⟨k, a, b, hk, rfl, rfl, rfl, rfl, V⟩ := hrel
    by_cases hlt : k < q
    · have hkl : k < l.length := by rw [HQ.out]; exact hlt
      obtain ⟨x, hx⟩ : ∃ x, l[k] = x := ⟨_, rfl⟩
      obtain ⟨bb, o, rfl, hcell⟩ := R.out (by rw [HQ.out]; omega)
      have cx : wr.cell? ⟨bb, o + k, none⟩ = some (.int .u8 x) := by
        have := hcell k hkl 0 (.int .u8 x) (by rw [hx]; rfl)
        simpa using this
      have V2 := Fact.mk (V.out.step HB.out hkl hx)
      have i1 : (k : Int) < (q : Int) := by omega
      have hxb := HB.out _ (List.getElem_mem hkl)
      rw [hx] at hxb
      obtain ⟨x0, x1⟩ := hxb
      have ecv : IntKind.u64.wrap (x % 128) = x % 128 := by rw [IntKind.wrap_u64]; omega
      clear hcell V hx hkl
      go_wp2_with fail
      go_roundw
      case rel => exact ⟨k + 1, _, _, by omega, rfl, rfl, by go_num, trivial, V2⟩
      case measure => simp [intOf]; omega
    · have hke : k = q := by omega
      have HE := Fact.mk hke
      have i2 : decide ((k : Int) < (q : Int)) = false := decide_eq_false (by omega)
      have i3 : decide (k < q) = false := decide_eq_false (by omega)
      have R2 : Fact (a = ((valB l % M64 : Nat) : Int)) := ⟨by have := V.out.n; rwa [HE.out, ← HQ.out, List.take_length] at this⟩
      clear hke hlt hk
      go_wp2_with fail
      go_ret
      exact ⟨by rw [R2.out]; rfl, rfl⟩
set_option maxHeartbeats 1000000 in
set_option maxRecDepth 100000 in
theorem begins_any (w : World) (v : Value) (l : List Int) (h : Rd oneU8 1 w v l) :
    Calls Try.prog 97 #[v] w fun e w' => (∃ b, e = .returned (.bool b)) ∧ w' = w := by
  obtain ⟨hl, A, c, rfl, hc, _, hr⟩ := h
  obtain ⟨q, hq⟩ : ∃ q, l.length = q := ⟨_, rfl⟩
  have R := Fact.mk hr
  have HQ := Fact.mk hq
  rw [hq] at hl hc ⊢
  clear hr hq
  go_enter Try.func97, Try.ntmps97
  go_wp2_with fail
  go_loopw [3] (fun i wr => ∃ (k : Nat), k ≤ q ∧ i = .int .i64 k ∧ wr = w) (fun i _ => q - (intOf i).toNat)
  case atStart => exact ⟨0, Nat.zero_le _, rfl, rfl⟩
  case round =>
    obtain ⟨k, hk, rfl, rfl⟩ := hrel
    by_cases hlt : k < q
    · have hkl : k < l.length := by rw [HQ.out]; exact hlt
      obtain ⟨x, hx⟩ : ∃ x, l[k] = x := ⟨_, rfl⟩
      obtain ⟨bb, o, rfl, hcell⟩ := R.out (by rw [HQ.out]; omega)
      have cx : wr.cell? ⟨bb, o + k, none⟩ = some (.int .u8 x) := by
        have := hcell k hkl 0 (.int .u8 x) (by rw [hx]; rfl)
        simpa using this
      have i1 : (k : Int) < (q : Int) := by omega
      clear hcell hx hkl
      by_cases hx : x < 128
      · go_wp2_with fail
        go_ret
        exact ⟨⟨_, rfl⟩, rfl⟩
      · go_wp2_with fail
        go_roundw
        case rel => exact ⟨k + 1, by omega, by go_num, trivial⟩
        case measure => simp [intOf]; omega
    · have i2 : decide ((k : Int) < (q : Int)) = false := decide_eq_false (by omega)
      have i3 : decide (k < q) = false := decide_eq_false (by omega)
      clear hlt
      go_wp2_with fail
      go_ret
      exact ⟨⟨_, rfl⟩, rfl⟩
/-! ### GetUint -/
/-- Are the first k bytes a number, written down? -/
def tryU (l : List Int) (k : Nat) : Bool := decide (uintB (valB (l.take k) % M64) = l.take k)
theorem try_yes {l : List Int} {k : Nat} (h : tryU l k = true) : getU l = some (valB (l.take k) % M64, l.drop k) := by
  have e := of_decide_eq_true h
  have hl : l = uintB (valB (l.take k) % M64) ++ l.drop k := by rw [e, List.take_append_drop]
  have := getU_mk (n := valB (l.take k) % M64) (Nat.mod_lt _ (by decide)) (l.drop k)
  rw [← hl] at this
  exact this
theorem try_no {l : List Int} (hb : Bys l) {m : Nat} (hm2 : m = 10 ∨ m = l.length) (h : ∀ k, 1 ≤ k → k ≤ m → k ≤ l.length → tryU l k = false) : getU l = none := by
  cases hg : getU l with
  | none => rfl
  | some p =>
    obtain ⟨n, r⟩ := p
    obtain ⟨hn, e⟩ := getU_of hb hg
    obtain ⟨h1, h2⟩ := uint_len hn
    have hK : (uintB n).length ≤ l.length := by rw [e, List.length_append]; omega
    have hf := h (uintB n).length h1 (by omega) hK
    have ht : l.take (uintB n).length = uintB n := by rw [e, List.take_left' rfl]
    obtain ⟨i, x, e2, _, hv⟩ := uint_digs n
    rw [← e2] at hv
    unfold tryU at hf
    rw [ht, hv, show n % M64 = n from Nat.mod_eq_of_lt hn] at hf
    simp at hf
def RGetPost (w : World) (l : List Int) (o : Option (Nat × List Int)) (e : Ending) (w' : World) : Prop :=
  Below w.heap.size w w' ∧ match o with
  | some (n, r) => ∃ a2 : Nat, a2 ≤ l.length ∧ l.drop a2 = r ∧ n < 18446744073709551616 ∧ e = .returned (.tuple #[.int .u64 (n : Int), .int .i64 (a2 : Int), .int .i64 0])
  | none => ∃ er : Int, er ≠ 0 ∧ e = .returned (.tuple #[.int .u64 0, .int .i64 0, .int .i64 er])
theorem bys_drop {l : List Int} (h : Bys l) (d : Nat) : Bys (l.drop d) := fun x hx => h x (List.mem_of_mem_drop hx)
theorem bys_take {l : List Int} (h : Bys l) (d : Nat) : Bys (l.take d) := fun x hx => h x (List.mem_of_mem_take hx)
theorem str_back0 {W : World} {v : Value} {xs : List Int} (h : Rd oneU8 1 W v xs) : (convert 62 9 v).run Try.prog W = .ok (.string (strOfNums xs)) W :=
  conv_back h 62 9 5 Try.underlying62 Try.underlying5 Try.underlying9
theorem str_inj {a b : List Int} (ha : Bys a) (hb : Bys b) : (strOfNums a = strOfNums b) ↔ a = b := ⟨fun h => by rw [← strB_strOf ha, h, strB_strOf hb], fun h => by rw [h]⟩
set_option maxHeartbeats 4000000 in
set_option maxRecDepth 100000 in
theorem rGetUint_any (w : World) (v : Value) (l : List Int) (h : Rd oneU8 1 w v l) (hb : Bys l) (hlm : l.length ≤ 1000000) (d : Nat) (hd : d ≤ l.length) :
    Calls Try.prog 88 #[v, .int .i64 (d : Int)] w (RGetPost w l (getU (l.drop d))) := by
  obtain ⟨hl, A, c, rfl, hc, _, _⟩ := id h
  obtain ⟨q, hq⟩ : ∃ q, l.length = q := ⟨_, rfl⟩
  have H := Fact.mk h
  have HB := Fact.mk hb
  have HQ := Fact.mk hq
  rw [hq] at H hl hc hd hlm ⊢
  obtain ⟨o, ho⟩ : ∃ o, getU (l.drop d) = o := ⟨_, rfl⟩
  rw [ho]
  have HO := Fact.mk ho
  have e1 : ¬ (d : Int) < 0 := by omega
  have e2 : decide ((q : Int) < (d : Int)) = false := decide_eq_false (by omega)
  have e3 : decide (q < d) = false := decide_eq_false (by omega)
  clear h hb hq ho
  go_enter Try.func88, Try.ntmps88
  go_wp2_with fail
  go_loopw [7] (fun i wr => ∃ (k : Nat), 1 ≤ k ∧ k ≤ 11 ∧ d + k ≤ q + 1 ∧ i = .int .i64 k ∧ Fact (Below w.heap.size w wr ∧ ∀ j, 1 ≤ j → j < k → tryU (l.drop d) j = false)) (fun i _ => 11 - (intOf i).toNat)
  case atStart => exact ⟨1, by omega, by omega, by omega, rfl, ⟨Below.refl _ _, fun j h1 h2 => by omega⟩⟩
  case round =>
    obtain ⟨k, hk0, hk1, hk2, rfl, I⟩ := hrel
    by_cases hlt : k ≤ 10 ∧ d + k ≤ q
    · obtain ⟨g1, g2⟩ := hlt
      have g3 : (k : Int) ≤ 10 := by omega
      have g4 : (d : Int) + (k : Int) ≤ (q : Int) := by omega
      have hcq : d + k ≤ c := by omega
      have MID := fun W => run_midU W A q c d k hcq
      have RM := fun (W : World) (hW : Below w.heap.size w W) => (H.out.below hW).midU d k (by omega)
      obtain ⟨mv, hmv⟩ : ∃ mv, midU A c d (d + k) = mv := ⟨_, rfl⟩
      rw [hmv] at MID RM
      have VA := Fact.mk (value_any wr mv _ (RM wr I.out.1) (bys_take (bys_drop HB.out d) k))
      obtain ⟨n, hn⟩ : ∃ n, valB ((l.drop d).take k) % M64 = n := ⟨_, rfl⟩
      rw [hn] at VA
      have hn64 : n < 18446744073709551616 := by rw [← hn]; exact Nat.mod_lt _ (by decide)
      have HNN := Fact.mk hn
      have VR := Fact.mk (fun W => varint_any n hn64 W)
      obtain ⟨t, ht⟩ : ∃ t, tryU (l.drop d) k = t := ⟨_, rfl⟩
      have HT := Fact.mk ht
      obtain ⟨sa, hsa⟩ : ∃ s, strOfNums (uintB n) = s := ⟨_, rfl⟩
      obtain ⟨sb, hsb⟩ : ∃ s, strOfNums ((l.drop d).take k) = s := ⟨_, rfl⟩
      have HTS : (sa.toList == sb.toList) = t := by
        rw [← ht]
        unfold tryU
        rw [hn]
        by_cases e : uintB n = (l.drop d).take k
        · rw [decide_eq_true e, ← hsa, ← hsb, e]; exact beq_self_eq_true _
        · rw [decide_eq_false e]
          exact beq_eq_false_iff_ne.2 (fun h => e ((str_inj (uint_bys n) (bys_take (bys_drop HB.out d) k)).1 (by rw [hsa, hsb]; exact sc_name h)))
      have s1 := fun (W' : World) (hW : Fact (Below wr.heap.size wr W')) => str_back0 (RM W' (I.out.1.trans (hW.out.mono I.out.1.size)))
      rw [hsb] at s1
      have s0 := fun (h : Fact (Below wr.heap.size wr wr.drew)) => s1 _ h
      have s7 := s0 ⟨(Below.refl _ _).drew⟩
      clear s0
      have HSA := Fact.mk hsa
      have RMF := Fact.mk RM
      clear hmv hn RM ht hsa hsb
      go_wp2_with fail
      refine VA.out.mono ?_
      rintro e W1 ⟨rfl, rfl⟩
      clear VA
      have hwk : IntKind.i64.wrap ((d : Int) + (k : Int)) = (d : Int) + (k : Int) := by rw [IntKind.wrap_i64]; omega
      go_upto_region 7 with (fail)
      go_cut [46] from 36 to 45 (fun s wx => s = .bool t ∧ Fact (Below W1.heap.size W1 wx))
      case first =>
        go_region_with (go_at_call 84; refine (VR.out _).mono ?_; rintro e W6 ⟨v9, rfl, r9, b9⟩; obtain ⟨A9, n9, c9, rfl⟩ := rdr_slice0 r9; have HB6 : Fact (Below W1.heap.size W1 W6) := ⟨((Below.refl _ _).drew).trans (b9.mono (Nat.le_refl _))⟩; have s9 := str_back0 r9; have s8 := s1 W6 HB6; rw [HSA.out] at s9; clear r9 b9)
        all_goals (go_wp2_with fail; go_meet; exact ⟨rfl, HB6⟩)
      case rest =>
        clear s1 MID
        obtain ⟨rfl, hbx⟩ := hcut
        cases t with
        | true =>
          have HN : Fact (o = some (n, l.drop (d + k))) := ⟨by rw [← HO.out, try_yes HT.out, HNN.out, List.drop_drop]⟩
          have HE : Fact (d + k ≤ l.length ∧ n < 18446744073709551616) := ⟨by rw [HQ.out]; exact g2, hn64⟩
          go_wp2_with fail
          go_ret3
          refine ⟨I.out.1.trans (hbx.out.mono I.out.1.size), ?_⟩
          rw [HN.out]
          exact ⟨d + k, HE.out.1, rfl, HE.out.2, by show Ending.returned (.tuple #[.int .u64 (n : Int), .int .i64 ((d : Int) + (k : Int)), .int .i64 0]) = _; rw [Int.natCast_add]⟩
        | false =>
          go_wp2_with fail
          go_roundw
          case rel => exact ⟨k + 1, by omega, by omega, by omega, by go_num, ⟨I.out.1.trans (hbx.out.mono I.out.1.size), fun j h1 h2 => by
            by_cases e : j = k
            · rw [e]; exact HT.out
            · exact I.out.2 j h1 (by omega)⟩⟩
          case measure => simp [intOf]; omega
    · have HN : Fact (o = none) := ⟨by
        rw [← HO.out]
        have hdl : (l.drop d).length = q - d := by rw [List.length_drop, HQ.out]
        exact try_no (bys_drop HB.out d) (m := k - 1) (by rw [hdl]; omega) (fun j h1 h2 _ => I.out.2 j h1 (by omega))⟩
      obtain ⟨tv, htv⟩ : ∃ tv, tailU A q c d = tv := ⟨_, rfl⟩
      have TL := fun W => run_tailU W A q c d hd
      have RT := Fact.mk ((H.out.below I.out.1).tailU d hd)
      rw [htv] at TL RT
      have BG := Fact.mk (begins_any wr tv _ RT.out)
      clear htv
      by_cases h10 : k ≤ 10
      · have g3 : (k : Int) ≤ 10 := by omega
        have g4 : decide ((d : Int) + (k : Int) ≤ (q : Int)) = false := decide_eq_false (by omega)
        have g5 : decide (d + k ≤ q) = false := decide_eq_false (by omega)
        clear hlt
        go_wp2_with fail
        refine BG.out.mono ?_
        rintro e W2 ⟨⟨b, rfl⟩, rfl⟩
        cases b with
        | true =>
          go_wp2_with fail
          go_ret3
          refine ⟨I.out.1, ?_⟩
          rw [HN.out]
          exact ⟨10, by decide, rfl⟩
        | false =>
          go_wp2_with fail
          go_ret3
          refine ⟨I.out.1, ?_⟩
          rw [HN.out]
          exact ⟨11, by decide, rfl⟩
      · have g3 : decide ((k : Int) ≤ 10) = false := decide_eq_false (by omega)
        have g4 : decide (k ≤ 10) = false := decide_eq_false h10
        clear hlt h10
        go_wp2_with fail
        refine BG.out.mono ?_
        rintro e W2 ⟨⟨b, rfl⟩, rfl⟩
        cases b with
        | true =>
          go_wp2_with fail
          go_ret3
          refine ⟨I.out.1, ?_⟩
          rw [HN.out]
          exact ⟨10, by decide, rfl⟩
        | false =>
          go_wp2_with fail
          go_ret3
          refine ⟨I.out.1, ?_⟩
          rw [HN.out]
          exact ⟨11, by decide, rfl⟩
/-! ### GetBlob -/
def RBlobPost (w : World) (l : List Int) (o : Option (List Int × List Int)) (e : Ending) (w' : World) : Prop :=
  Below w.heap.size w w' ∧ match o with
  | some (s, r) => ∃ (v : Value) (a2 : Nat), a2 ≤ l.length ∧ l.drop a2 = r ∧ e = .returned (.tuple #[v, .int .i64 (a2 : Int), .int .i64 0]) ∧ Rd oneU8 1 w' v s
  | none => ∃ er : Int, er ≠ 0 ∧ e = .returned (.tuple #[.slice none 0 0, .int .i64 0, .int .i64 er])
set_option maxHeartbeats 4000000 in
set_option maxRecDepth 100000 in
theorem rGetBlob_any (w : World) (v : Value) (l : List Int) (h : Rd oneU8 1 w v l) (hb : Bys l) (hlm : l.length ≤ 1000000) (d : Nat) (hd : d ≤ l.length) (most : Nat) (hm : most ≤ 1000000) :
    Calls Try.prog 87 #[v, .int .i64 (d : Int), .int .i64 (most : Int)] w (RBlobPost w l (blobP most (l.drop d))) := by
  have HG := Fact.mk (rGetUint_any w v l h hb hlm d hd)
  obtain ⟨A, q, c, rfl, hq⟩ : ∃ A q c, v = .slice A q c ∧ l.length = q := by obtain ⟨_, A, c, h, _⟩ := h; exact ⟨A, _, c, h, rfl⟩
  have HR := Fact.mk h
  have hcq : q ≤ c := by
    obtain ⟨_, A', c', e, h2, _⟩ := h
    cases e
    omega
  have HQ := Fact.mk hq
  rw [hq] at hlm hd
  obtain ⟨g, hg⟩ : ∃ g, getU (l.drop d) = g := ⟨_, rfl⟩
  rw [hg] at HG
  obtain ⟨o, ho⟩ : ∃ o, blobP most (l.drop d) = o := ⟨_, rfl⟩
  have HO : Fact (g.bind (fun p => if p.1 ≤ most ∧ p.1 ≤ p.2.length then some (p.2.take p.1, p.2.drop p.1) else none) = o) := ⟨by rw [← ho, ← hg]; rfl⟩
  rw [ho]
  have c1 : IntKind.u64.wrap (most : Int) = (most : Int) := by rw [IntKind.wrap_u64]; omega
  have c2 : IntKind.u64.wrap (q : Int) = (q : Int) := by rw [IntKind.wrap_u64]; omega
  have m0 : ¬ ((most : Int) < 0) := by omega
  clear h hb hg ho hq
  go_enter Try.func87, Try.ntmps87
  go_wp2_with fail
  refine HG.out.mono ?_
  rintro e w1 ⟨hb1, hp⟩
  have B1 := Fact.mk hb1
  clear hb1
  cases g with
  | none =>
    obtain ⟨er, he, rfl⟩ := hp
    obtain rfl := HO.out
    have e1 : (er != 0) = true := bne_iff_ne.2 he
    have HE := Fact.mk he
    clear he
    go_wp2_with fail
    go_ret3
    exact ⟨B1.out, er, HE.out, rfl⟩
  | some p =>
    obtain ⟨n, r⟩ := p
    obtain ⟨a2, ha2, hr, hn64, rfl⟩ := hp
    rw [HQ.out] at ha2
    have hrl : r.length = q - a2 := by rw [← hr, List.length_drop, HQ.out]
    have HRL := Fact.mk hrl
    have HDR := Fact.mk hr
    by_cases h1 : n ≤ most
    · have e1 : decide ((most : Int) < (n : Int)) = false := decide_eq_false (by omega)
      have e2 : decide (most < n) = false := decide_eq_false (by omega)
      have c3 : IntKind.i64.wrap (n : Int) = (n : Int) := by rw [IntKind.wrap_i64]; omega
      have c4 : IntKind.i64.wrap ((a2 : Int) + (n : Int)) = (a2 : Int) + (n : Int) := by rw [IntKind.wrap_i64]; omega
      by_cases h2 : a2 + n ≤ q
      · have e3 : decide ((q : Int) < (n : Int)) = false := decide_eq_false (by omega)
        have e4 : decide (q < n) = false := decide_eq_false (by omega)
        have e5 : decide ((q : Int) < (a2 : Int) + (n : Int)) = false := decide_eq_false (by omega)
        have e6 : decide (q < a2 + n) = false := decide_eq_false (by omega)
        obtain rfl : some (r.take n, r.drop n) = o := by
          rw [← HO.out]
          show _ = (if n ≤ most ∧ n ≤ r.length then some (r.take n, r.drop n) else none)
          rw [if_pos ⟨h1, by omega⟩]
        have MID := fun W => run_midU W A q c a2 n (by omega)
        have RM := (HR.out.below B1.out)
        have RM2 := RM.midU a2 n h2
        rw [HDR.out] at RM2
        obtain ⟨mv, hmv⟩ : ∃ mv, midU A c a2 (a2 + n) = mv := ⟨_, rfl⟩
        rw [hmv] at MID RM2
        have BH := Fact.mk (behind_any w1 (.slice none 0 0) mv [] _ (rd_nil _ _ _) RM2 (by rw [List.length_take]; simp; omega))
        have HA : Fact (a2 + n ≤ l.length ∧ l.drop (a2 + n) = r.drop n) := ⟨by rw [HQ.out]; exact h2, by rw [← HDR.out, List.drop_drop]⟩
        clear hmv RM RM2 hrl hr hn64
        go_wp2_with fail
        refine BH.out.mono ?_
        rintro e w2 ⟨v2, rfl, r2, b2⟩
        have R2 := Fact.mk (And.intro r2 (B1.out.trans (b2.mono B1.out.size)))
        obtain ⟨A3, n3, c5, rfl⟩ := rdr_slice0 r2
        clear r2 b2 BH
        go_wp2_with fail
        go_ret3
        exact ⟨R2.out.2, _, a2 + n, HA.out.1, HA.out.2, by show Ending.returned (.tuple #[.slice A3 n3 c5, .int .i64 ((a2 : Int) + (n : Int)), .int .i64 0]) = _; rw [Int.natCast_add], R2.out.1⟩
      · obtain rfl : none = o := by
          rw [← HO.out]
          show _ = (if n ≤ most ∧ n ≤ r.length then some (r.take n, r.drop n) else none)
          rw [if_neg (by omega)]
        by_cases h3 : q < n
        · have e3 : decide ((q : Int) < (n : Int)) = true := decide_eq_true (by omega)
          have e4 : decide (q < n) = true := decide_eq_true (by omega)
          clear hrl hr hn64
          go_wp2_with fail
          go_ret3
          exact ⟨B1.out, 10, by decide, rfl⟩
        · have e3 : decide ((q : Int) < (n : Int)) = false := decide_eq_false (by omega)
          have e4 : decide (q < n) = false := decide_eq_false (by omega)
          have e5 : decide ((q : Int) < (a2 : Int) + (n : Int)) = true := decide_eq_true (by omega)
          have e6 : decide (q < a2 + n) = true := decide_eq_true (by omega)
          clear hrl hr hn64
          go_wp2_with fail
          go_ret3
          exact ⟨B1.out, 10, by decide, rfl⟩
    · obtain rfl : none = o := by
        rw [← HO.out]
        show _ = (if n ≤ most ∧ n ≤ r.length then some (r.take n, r.drop n) else none)
        rw [if_neg (by omega)]
      have e1 : decide ((most : Int) < (n : Int)) = true := decide_eq_true (by omega)
      have e2 : decide (most < n) = true := decide_eq_true (by omega)
      clear hrl hr hn64
      go_wp2_with fail
      go_ret3
      exact ⟨B1.out, 3, by decide, rfl⟩
end Go.Proofs.Ythiapebodpkamaa

