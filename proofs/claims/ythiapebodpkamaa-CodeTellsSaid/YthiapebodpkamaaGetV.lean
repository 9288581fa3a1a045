/- Contract of bytes.GetUint. -/
import Derived.Test.YthiapebodpkamaaGetU
namespace Go.Proofs.Ythiapebodpkamaa
open Go.RowKit
/-- The last i of the digits up to place k. -/
def lastsU (l : List Int) (k i : Nat) : List Int := (l.take (k + 1)).drop (k + 1 - i)
theorem lasts_zero (l : List Int) (k : Nat) : lastsU l k 0 = [] := by
  unfold lastsU
  exact List.drop_eq_nil_of_le (by rw [List.length_take]; omega)
theorem lasts_all (l : List Int) (k : Nat) : lastsU l k (k + 1) = l.take (k + 1) := by unfold lastsU; rw [Nat.sub_self]; rfl
theorem lasts_succ (l : List Int) (k i : Nat) (hi : i < k + 1) (hk : k < l.length) : lastsU l k (i + 1) = l[k - i]'(by omega) :: lastsU l k i := by
  unfold lastsU
  have hl : k + 1 - (i + 1) < (l.take (k + 1)).length := by rw [List.length_take]; omega
  rw [List.drop_eq_getElem_cons hl]
  congr 1
  · rw [List.getElem_take]; congr 1; omega
  · congr 1; omega
theorem valB_mono (l : List Int) (k i : Nat) (hi : i ≤ k + 1) (hk : k < l.length) : valB (lastsU l k i) ≤ valB (l.take (k + 1)) := by
  rw [← lasts_all]
  have : ∀ d i, i + d = k + 1 → valB (lastsU l k i) ≤ valB (lastsU l k (k + 1)) := by
    intro d
    induction d with
    | zero => intro i h; rw [show i = k + 1 by omega]; exact Nat.le_refl _
    | succ d ih =>
      intro i h
      refine Nat.le_trans ?_ (ih (i + 1) (by omega))
      rw [lasts_succ l k i (by omega) hk]
      show _ ≤ _ + 128 * _
      omega
  exact this (k + 1 - i) i (by omega)
theorem and_127 : ∀ x : Fin 256, bits BinOp.and IntKind.u8 (x.val : Int) 127 = ((x.val % 128 : Nat) : Int) := by decide +kernel
theorem low7 {x : Int} (h : 0 ≤ x ∧ x ≤ 255) : bits BinOp.and IntKind.u8 x 127 = x % 128 := by
  have := and_127 ⟨x.toNat, by omega⟩
  simp only at this
  rw [show ((x.toNat : Nat) : Int) = x by omega] at this
  rw [this]
  omega
def GetPost (w : World) (l : List Int) (o : Option (Nat × List Int)) (e : Ending) (w' : World) : Prop :=
  w = w' ∧ match o with
  | some (n, r) => ∃ at_ : Nat, at_ ≤ l.length ∧ l.drop at_ = r ∧ e = .returned (.tuple #[.int .u64 (n : Int), .int .i64 (at_ : Int), .int .i64 0])
  | none => ∃ er : Int, er ≠ 0 ∧ e = .returned (.tuple #[.int .u64 0, .int .i64 0, .int .i64 er])
set_option maxHeartbeats 4000000 in
set_option maxRecDepth 100000 in
theorem getUint_none (w : World) (v : Value) (l : List Int) (h : Rd oneU8 1 w v l) (d : Nat) (hd : d ≤ l.length) (hg : firstLow (l.drop d) = none) :
    Calls Try.prog 86 #[v, .int .i64 (d : Int)] w (GetPost w l none) := by
  have HR := Fact.mk (rest_any w v l h d hd)
  clear h
  go_enter Try.func86, Try.ntmps86
  go_wp2_with fail
  refine HR.out.mono ?_
  rintro e w1 ⟨tv, rfl, ht, rfl⟩
  have HI := Fact.mk (idx_no w tv _ ht hg)
  obtain ⟨m, q, c, rfl⟩ : ∃ m q c, tv = .slice m q c := by obtain ⟨_, A, c, h, _⟩ := ht; exact ⟨A, _, c, h⟩
  clear ht HR hg
  go_wp2_with fail
  refine HI.out.mono ?_
  rintro e w1 ⟨rfl, rfl⟩
  clear HI
  by_cases h10 : q < 10
  · have e1 : decide ((q : Int) < 10) = true := decide_eq_true (by omega)
    go_wp2
    go_ret3
    exact ⟨rfl, 10, by decide, rfl⟩
  · have e1 : decide ((q : Int) < 10) = false := decide_eq_false (by omega)
    go_wp2
    go_ret3
    exact ⟨rfl, 11, by decide, rfl⟩
/-- A digit below 128 comes. -/
theorem or_7 {y : Int} {m : Nat} (hy : 0 ≤ y ∧ y ≤ 255) (h : 128 * m + (y % 128).toNat < 18446744073709551616) : Value.int IntKind.u64 (bits BinOp.or IntKind.u64 ((m : Int) * 128) (IntKind.u64.wrap (bits BinOp.and IntKind.u8 y 127))) = Value.int IntKind.u64 (((y % 128).toNat + 128 * m : Nat) : Int) := by
  rw [low7 hy]
  obtain ⟨d, hd⟩ : ∃ d : Nat, y % 128 = d := ⟨(y % 128).toNat, by omega⟩
  have hd2 : d < 128 := by omega
  rw [hd] at h ⊢
  rw [Int.toNat_natCast] at h ⊢
  have e1 : IntKind.u64.wrap (d : Int) = d := by rw [IntKind.wrap_u64]; omega
  rw [e1]
  congr 1
  show IntKind.u64.wrap ((BitVec.ofInt 64 ((m : Int) * 128) ||| BitVec.ofInt 64 (d : Int)).toNat : Int) = _
  rw [BitVec.toNat_or, BitVec.toNat_ofInt, BitVec.toNat_ofInt, show (((m : Int) * 128) % ((2 ^ 64 : Nat) : Int)).toNat = 2 ^ 7 * m by omega, show ((d : Int) % ((2 ^ 64 : Nat) : Int)).toNat = d by omega, ← Nat.two_pow_add_eq_or_of_lt (by omega) m, IntKind.wrap_u64]
  omega
theorem get_end {w : World} {l : List Int} {n : Nat} {r : List Int} {z : Int} (at_ : Nat) (h1 : at_ ≤ l.length) (h2 : l.drop at_ = r) (h3 : z = at_) : GetPost w l (some (n, r)) (.returned (.tuple #[.int .u64 (n : Int), .int .i64 z, .int .i64 0])) w :=
  ⟨rfl, at_, h1, h2, by rw [h3]⟩
theorem getU_some {t : List Int} {k : Nat} (hf : firstLow t = some k) : getU t = if 10 ≤ k ∨ (k = 9 ∧ 1 < t.getD 9 0) ∨ (0 < k ∧ t.getD k 0 = 0) then none else some (valB (t.take (k + 1)), t.drop (k + 1)) := by
  unfold getU
  rw [hf]
set_option maxHeartbeats 8000000 in
set_option maxRecDepth 100000 in
theorem getUint_some (w : World) (v : Value) (l : List Int) (h : Rd oneU8 1 w v l) (hb : Bys l) (d : Nat) (hd : d ≤ l.length) (k : Nat) (hg : firstLow (l.drop d) = some k) :
    Calls Try.prog 86 #[v, .int .i64 (d : Int)] w (GetPost w l (getU (l.drop d))) := by
  have HR := Fact.mk (rest_any w v l h d hd)
  have hmax := h.1
  obtain ⟨t, ht⟩ : ∃ t, l.drop d = t := ⟨_, rfl⟩
  have hbt : Bys t := by rw [← ht]; exact fun x hx => hb x (List.mem_of_mem_drop hx)
  have htl : d + t.length = l.length := by rw [← ht, List.length_drop]; omega
  rw [ht] at hg HR ⊢
  have hdr : ∀ j, l.drop (d + j) = t.drop j := fun j => by rw [← ht, List.drop_drop]
  have hk : k < t.length := by
    obtain ⟨i, x, r, e, hl, _, _⟩ := firstLow_some hg
    rw [e, List.length_append, hl, List.length_cons]; omega
  have hgu := getU_some hg
  have hU : ∀ n r, getU t = some (n, r) → n < 18446744073709551616 := fun n r hh => (getU_of hbt hh).1
  have HDR := Fact.mk hdr
  have HGU := Fact.mk hgu
  have HU := Fact.mk hU
  obtain ⟨o, ho⟩ : ∃ o, getU t = o := ⟨_, rfl⟩
  have HO := Fact.mk ho
  rw [ho]
  clear h hb ht hdr hgu hU ho
  go_enter Try.func86, Try.ntmps86
  go_wp2_with fail
  refine HR.out.mono ?_
  rintro e w1 ⟨tv, rfl, htv, rfl⟩
  have HI := Fact.mk (idx_yes w tv t htv hg)
  obtain ⟨b, off, q, c, rfl, hq, hcell⟩ : ∃ b off q c, tv = .slice (some ⟨b, off, none⟩) q c ∧ q = t.length ∧ ∀ j (hj : j < t.length), w.cell? ⟨b, off + j, none⟩ = some (.int .u8 t[j]) := by
    obtain ⟨_, A, c, e, _, _, hc⟩ := htv
    obtain ⟨b, off, rfl, hc2⟩ := hc (by omega)
    refine ⟨b, off, _, c, e, rfl, fun j hj => ?_⟩
    have := hc2 j hj 0 _ rfl
    rwa [show off + j * 1 + 0 = off + j by omega] at this
  have HQ := Fact.mk hq
  have BT := Fact.mk hbt
  have CELL := Fact.mk hcell
  have hx0 : t.getD k 0 = t[k] := by rw [List.getD_eq_getElem?_getD, List.getElem?_eq_getElem hk]; rfl
  have cx := hcell k hk
  have hxb := hbt _ (List.getElem_mem hk)
  have hqk : k < q := by rw [hq]; exact hk
  have hq9 : q ≤ 9223372036854775807 := by omega
  have hgood : Fact (¬ (10 ≤ k ∨ (k = 9 ∧ 1 < t.getD 9 0) ∨ (0 < k ∧ t[k] = 0))) → o = some (valB (t.take (k + 1)), t.drop (k + 1)) := fun h => by rw [← HO.out, HGU.out, hx0, if_neg h.out]
  have hbad : (10 ≤ k ∨ (k = 9 ∧ 1 < t.getD 9 0) ∨ (0 < k ∧ t[k] = 0)) → o = none := fun h => by rw [← HO.out, HGU.out, hx0, if_pos h]
  have HGOOD := Fact.mk hgood
  have HBAD := Fact.mk hbad
  clear htv HR hg hcell hbt hq hgood hbad
  go_wp2_with fail
  refine HI.out.mono ?_
  rintro e w1 ⟨rfl, rfl⟩
  clear HI
  obtain ⟨x, hx⟩ : ∃ x, t[k] = x := ⟨_, rfl⟩
  rw [hx] at hx0 cx hxb HGOOD HBAD
  have HX0 := Fact.mk hx0
  clear hx0
  clear hx
  by_cases k10 : 10 ≤ k
  · obtain rfl := HBAD.out (.inl k10)
    have e1 : decide ((10 : Int) ≤ (k : Int)) = true := decide_eq_true (by omega)
    clear HBAD HGOOD
    go_wp2
    go_ret3
    exact ⟨rfl, 11, by decide, rfl⟩
  have e1 : decide ((10 : Int) ≤ (k : Int)) = false := decide_eq_false (by omega)
  by_cases k9 : k = 9
  · have HX9 : Fact (t.getD 9 0 = x) := ⟨by rw [← k9]; exact HX0.out⟩
    have e2 : ((k : Int) == 9) = true := beq_iff_eq.2 (by omega)
    have e3 : decide ((0 : Int) < (k : Int)) = true := decide_eq_true (by omega)
    have e4 : 0 < k := by omega
    rw [HX9.out] at HBAD HGOOD
    by_cases x1 : 1 < x
    · obtain rfl := HBAD.out (.inr (.inl ⟨k9, x1⟩))
      have e6 : decide ((1 : Int) < x) = true := decide_eq_true x1
      clear HBAD HGOOD k9
      go_wp2
      go_ret3
      exact ⟨rfl, 11, by decide, rfl⟩
    have e6 : decide ((1 : Int) < x) = false := decide_eq_false x1
    by_cases x0 : x = 0
    · obtain rfl := HBAD.out (.inr (.inr ⟨e4, x0⟩))
      clear HBAD HGOOD k9
      have e5 : (x == 0) = true := beq_iff_eq.2 x0
      clear x0
      go_wp2
      go_ret3
      exact ⟨rfl, 11, by decide, rfl⟩
    have HB : Fact (Fact (¬ (10 ≤ k ∨ (k = 9 ∧ 1 < x) ∨ (0 < k ∧ x = 0)))) := ⟨⟨by rintro (h | ⟨_, h⟩ | ⟨_, h⟩) <;> omega⟩⟩
    have HN : Fact (valB (t.take (k + 1)) < 18446744073709551616) := ⟨HU.out _ _ (HO.out.trans (HGOOD.out HB.out))⟩
    have e5 : (x == 0) = false := beq_eq_false_iff_ne.2 x0
    clear k9
    obtain rfl := HGOOD.out HB.out
    clear HGOOD HBAD HGU
    go_wp2_with fail
    go_loopw [10, 59] (fun s n wr => ∃ i : Nat, i ≤ k + 1 ∧ n = .int .i64 i ∧ s = .int .u64 (valB (lastsU t k i) : Nat) ∧ Fact (wr = w)) (fun _ n _ => k + 1 - (intOf n).toNat)
    case atStart => exact ⟨0, Nat.zero_le _, rfl, by rw [lasts_zero]; rfl, ⟨rfl⟩⟩
    case round =>
      obtain ⟨i, hi, rfl, rfl, hwr⟩ := hrel
      obtain rfl := hwr.out
      by_cases hlt : i < k + 1
      · have hsu := lasts_succ t k i hlt hk
        have hmo := valB_mono t k (i + 1) hlt hk
        rw [hsu] at hmo
        obtain ⟨y, hy⟩ : ∃ y, t[k - i]'(by omega) = y := ⟨_, rfl⟩
        have hyb := BT.out _ (List.getElem_mem (show k - i < t.length by omega))
        have cy := CELL.out (k - i) (by omega)
        rw [hy] at hsu hmo hyb cy
        obtain ⟨m, hm⟩ : ∃ m, valB (lastsU t k i) = m := ⟨_, rfl⟩
        have hm2 : valB (y :: lastsU t k i) = (y % 128).toNat + 128 * m := by rw [← hm]; rfl
        rw [hm2] at hmo
        have hmm : 128 * m + (y % 128).toNat < 18446744073709551616 := by have := HN.out; omega
        have HM := Fact.mk (show valB (lastsU t k (i + 1)) = (y % 128).toNat + 128 * m by rw [hsu, hm2])
        rw [hm]
        clear hsu hmo hm hm2 hy
        have e1 : (k : Int) - (i : Int) = ((k - i : Nat) : Int) := by omega
        have i1 : ((k - i : Nat) : Int) < (q : Int) := by have := HQ.out; omega
        have i0 : k - i < q := by have := HQ.out; omega
        go_wp2_with fail
        go_roundw
        case rel => exact ⟨i + 1, by omega, by go_num, by rw [HM.out, or_7 hyb hmm], ⟨trivial⟩⟩
        case measure => simp [intOf]; omega
      · obtain rfl : i = k + 1 := by omega
        rw [lasts_all]
        have i3 : (d : Int) + (k : Int) ≤ 9223372036854775806 := by omega
        go_wp2
        go_ret3
        exact get_end (d + (k + 1)) (by omega) (HDR.out (k + 1)) (by omega)
  have e2 : ((k : Int) == 9) = false := beq_eq_false_iff_ne.2 (by omega)
  by_cases k0 : k = 0
  · have e3 : decide ((0 : Int) < (k : Int)) = false := decide_eq_false (by omega)
    have e4 : ¬ 0 < k := by omega
    have HB : Fact (Fact (¬ (10 ≤ k ∨ (k = 9 ∧ 1 < t.getD 9 0) ∨ (0 < k ∧ x = 0)))) := ⟨⟨by rintro (h | ⟨h, _⟩ | ⟨h, _⟩) <;> omega⟩⟩
    have HN : Fact (valB (t.take (k + 1)) < 18446744073709551616) := ⟨HU.out _ _ (HO.out.trans (HGOOD.out HB.out))⟩
    clear k0
    obtain rfl := HGOOD.out HB.out
    clear HGOOD HBAD HGU
    go_wp2_with fail
    go_loopw [10, 59] (fun s n wr => ∃ i : Nat, i ≤ k + 1 ∧ n = .int .i64 i ∧ s = .int .u64 (valB (lastsU t k i) : Nat) ∧ Fact (wr = w)) (fun _ n _ => k + 1 - (intOf n).toNat)
    case atStart => exact ⟨0, Nat.zero_le _, rfl, by rw [lasts_zero]; rfl, ⟨rfl⟩⟩
    case round =>
      obtain ⟨i, hi, rfl, rfl, hwr⟩ := hrel
      obtain rfl := hwr.out
      by_cases hlt : i < k + 1
      · have hsu := lasts_succ t k i hlt hk
        have hmo := valB_mono t k (i + 1) hlt hk
        rw [hsu] at hmo
        obtain ⟨y, hy⟩ : ∃ y, t[k - i]'(by omega) = y := ⟨_, rfl⟩
        have hyb := BT.out _ (List.getElem_mem (show k - i < t.length by omega))
        have cy := CELL.out (k - i) (by omega)
        rw [hy] at hsu hmo hyb cy
        obtain ⟨m, hm⟩ : ∃ m, valB (lastsU t k i) = m := ⟨_, rfl⟩
        have hm2 : valB (y :: lastsU t k i) = (y % 128).toNat + 128 * m := by rw [← hm]; rfl
        rw [hm2] at hmo
        have hmm : 128 * m + (y % 128).toNat < 18446744073709551616 := by have := HN.out; omega
        have HM := Fact.mk (show valB (lastsU t k (i + 1)) = (y % 128).toNat + 128 * m by rw [hsu, hm2])
        rw [hm]
        clear hsu hmo hm hm2 hy
        have e1 : (k : Int) - (i : Int) = ((k - i : Nat) : Int) := by omega
        have i1 : ((k - i : Nat) : Int) < (q : Int) := by have := HQ.out; omega
        have i0 : k - i < q := by have := HQ.out; omega
        go_wp2_with fail
        go_roundw
        case rel => exact ⟨i + 1, by omega, by go_num, by rw [HM.out, or_7 hyb hmm], ⟨trivial⟩⟩
        case measure => simp [intOf]; omega
      · obtain rfl : i = k + 1 := by omega
        rw [lasts_all]
        have i3 : (d : Int) + (k : Int) ≤ 9223372036854775806 := by omega
        go_wp2
        go_ret3
        exact get_end (d + (k + 1)) (by omega) (HDR.out (k + 1)) (by omega)
  have e3 : decide ((0 : Int) < (k : Int)) = true := decide_eq_true (by omega)
  have e4 : 0 < k := by omega
  by_cases x0 : x = 0
  · obtain rfl := HBAD.out (.inr (.inr ⟨e4, x0⟩))
    clear HBAD HGOOD
    have e5 : (x == 0) = true := beq_iff_eq.2 x0
    clear x0
    go_wp2
    go_ret3
    exact ⟨rfl, 11, by decide, rfl⟩
  have e5 : (x == 0) = false := beq_eq_false_iff_ne.2 x0
  have HB : Fact (Fact (¬ (10 ≤ k ∨ (k = 9 ∧ 1 < t.getD 9 0) ∨ (0 < k ∧ x = 0)))) := ⟨⟨by rintro (h | ⟨h, _⟩ | ⟨_, h⟩) <;> omega⟩⟩
  have HN : Fact (valB (t.take (k + 1)) < 18446744073709551616) := ⟨HU.out _ _ (HO.out.trans (HGOOD.out HB.out))⟩
  obtain rfl := HGOOD.out HB.out
  clear HGOOD HBAD HGU
  go_wp2_with fail
  go_loopw [10, 59] (fun s n wr => ∃ i : Nat, i ≤ k + 1 ∧ n = .int .i64 i ∧ s = .int .u64 (valB (lastsU t k i) : Nat) ∧ Fact (wr = w)) (fun _ n _ => k + 1 - (intOf n).toNat)
  case atStart => exact ⟨0, Nat.zero_le _, rfl, by rw [lasts_zero]; rfl, ⟨rfl⟩⟩
  case round =>
    obtain ⟨i, hi, rfl, rfl, hwr⟩ := hrel
    obtain rfl := hwr.out
    by_cases hlt : i < k + 1
    · have hsu := lasts_succ t k i hlt hk
      have hmo := valB_mono t k (i + 1) hlt hk
      rw [hsu] at hmo
      obtain ⟨y, hy⟩ : ∃ y, t[k - i]'(by omega) = y := ⟨_, rfl⟩
      have hyb := BT.out _ (List.getElem_mem (show k - i < t.length by omega))
      have cy := CELL.out (k - i) (by omega)
      rw [hy] at hsu hmo hyb cy
      obtain ⟨m, hm⟩ : ∃ m, valB (lastsU t k i) = m := ⟨_, rfl⟩
      have hm2 : valB (y :: lastsU t k i) = (y % 128).toNat + 128 * m := by rw [← hm]; rfl
      rw [hm2] at hmo
      have hmm : 128 * m + (y % 128).toNat < 18446744073709551616 := by have := HN.out; omega
      have HM := Fact.mk (show valB (lastsU t k (i + 1)) = (y % 128).toNat + 128 * m by rw [hsu, hm2])
      rw [hm]
      clear hsu hmo hm hm2 hy
      have e1 : (k : Int) - (i : Int) = ((k - i : Nat) : Int) := by omega
      have i1 : ((k - i : Nat) : Int) < (q : Int) := by have := HQ.out; omega
      have i0 : k - i < q := by have := HQ.out; omega
      go_wp2_with fail
      go_roundw
      case rel => exact ⟨i + 1, by omega, by go_num, by rw [HM.out, or_7 hyb hmm], ⟨trivial⟩⟩
      case measure => simp [intOf]; omega
    · obtain rfl : i = k + 1 := by omega
      rw [lasts_all]
      have i3 : (d : Int) + (k : Int) ≤ 9223372036854775806 := by omega
      go_wp2
      go_ret3
      exact get_end (d + (k + 1)) (by omega) (HDR.out (k + 1)) (by omega)
end Go.Proofs.Ythiapebodpkamaa

