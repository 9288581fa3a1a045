/- Contracts of blockhouseref13.Wrap, zigzag, Bytes. -/
import Derived.Test.YthiapebodpkamaaR01M
import Derived.Test.YthiapebodpkamaaRfR
import Derived.Test.YthiapebodpkamaaCbk
import Derived.Deep.RegionHeld3
import Derived.Deep.DeepCutAuto
namespace Go.Proofs.Ythiapebodpkamaa
open Go.RowKit
theorem i8_eq (n : Int) : IntKind.i8.wrap n = (n + 128) % 256 - 128 := by
  simp only [IntKind.wrap, IntKind.bits, IntKind.signed]; simp; omega
theorem i16_eq (n : Int) : IntKind.i16.wrap n = (n + 32768) % 65536 - 32768 := by
  simp only [IntKind.wrap, IntKind.bits, IntKind.signed]; simp; omega
set_option maxHeartbeats 2000000 in
set_option maxRecDepth 100000 in
theorem rWrap_any (t n : Int) (w : World) : Calls Try.prog 37 #[.int .u8 t, .int .i64 n] w fun e w' => e = .returned (.int .i64 (wrapOf t n)) ∧ w = w' := by
  have tm : ∀ m : Int, 0 < m → ∃ x, n.tmod m = x ∧ -m < x ∧ x < m ∧ (0 ≤ n → x = n % m) ∧ (n < 0 → x = -((-n) % m)) := fun m hm => ⟨n.tmod m, rfl, by
    by_cases h : 0 ≤ n
    · rw [Int.tmod_eq_emod_of_nonneg h]
      have h1 := Int.emod_nonneg n (Int.ne_of_gt hm)
      have h2 := Int.emod_lt_of_pos n hm
      exact ⟨by omega, h2, fun _ => rfl, fun h3 => by omega⟩
    · have e : n.tmod m = -((-n).tmod m) := by rw [Int.neg_tmod, Int.neg_neg]
      rw [e, Int.tmod_eq_emod_of_nonneg (by omega)]
      have h1 := Int.emod_nonneg (-n) (Int.ne_of_gt hm)
      have h2 := Int.emod_lt_of_pos (-n) hm
      exact ⟨by omega, by omega, fun h3 => by omega, fun _ => rfl⟩⟩
  by_cases h1 : t = 1
  · subst h1
    clear tm
    go_enter Try.func37, Try.ntmps37
    go_wp2_with fail
    refine (rRange_any _ _).mono ?_
    rintro e W ⟨rfl, rfl⟩
    by_cases h0 : n = 0
    · subst h0
      go_wp2_with fail
      go_ret
      exact ⟨rfl, rfl⟩
    · have hb : (n != 0) = true := bne_iff_ne.2 h0
      have HE : Fact (wrapOf 1 n = 1) := ⟨by unfold wrapOf; rw [if_pos rfl, if_neg h0]⟩
      go_wp2_with fail
      go_ret
      exact ⟨ret_int HE.out.symm, rfl⟩
  by_cases hx : t = 2 ∨ t = 3 ∨ t = 4 ∨ t = 5
  · have hm : ∃ m : Int, 1 < m ∧ (rangeOf t).2 - (rangeOf t).1 + 1 = m ∧ m ≤ 4294967296 ∧ (∀ x, -m < x → x < m → (0 ≤ n → x = n % m) → (n < 0 → x = -((-n) % m)) → (if (if x < (rangeOf t).1 then x + m else x) > (rangeOf t).2 then (if x < (rangeOf t).1 then x + m else x) - m else (if x < (rangeOf t).1 then x + m else x)) = wrapOf t n) := by
      rcases hx with rfl | rfl | rfl | rfl
      · refine ⟨256, by decide, by decide, by decide, fun x a b c d => ?_⟩
        show (if (if x < -128 then x + 256 else x) > 127 then (if x < -128 then x + 256 else x) - 256 else (if x < -128 then x + 256 else x)) = IntKind.i8.wrap n
        rw [i8_eq]
        by_cases h : 0 ≤ n
        · have := c h; split <;> split <;> omega
        · have := d (by omega); split <;> split <;> omega
      · refine ⟨65536, by decide, by decide, by decide, fun x a b c d => ?_⟩
        show (if (if x < -32768 then x + 65536 else x) > 32767 then (if x < -32768 then x + 65536 else x) - 65536 else (if x < -32768 then x + 65536 else x)) = IntKind.i16.wrap n
        rw [i16_eq]
        by_cases h : 0 ≤ n
        · have := c h; split <;> split <;> omega
        · have := d (by omega); split <;> split <;> omega
      · refine ⟨4294967296, by decide, by decide, by decide, fun x a b c d => ?_⟩
        show (if (if x < -2147483648 then x + 4294967296 else x) > 2147483647 then (if x < -2147483648 then x + 4294967296 else x) - 4294967296 else (if x < -2147483648 then x + 4294967296 else x)) = IntKind.i32.wrap n
        rw [IntKind.wrap_i32]
        by_cases h : 0 ≤ n
        · have := c h; split <;> split <;> omega
        · have := d (by omega); split <;> split <;> omega
      · refine ⟨4294967296, by decide, by decide, by decide, fun x a b c d => ?_⟩
        show (if (if x < 0 then x + 4294967296 else x) > 4294967295 then (if x < 0 then x + 4294967296 else x) - 4294967296 else (if x < 0 then x + 4294967296 else x)) = IntKind.u32.wrap n
        rw [IntKind.wrap_u32]
        by_cases h : 0 ≤ n
        · have := c h; split <;> split <;> omega
        · have := d (by omega); split <;> split <;> omega
    obtain ⟨m, m0, hr, m1, key⟩ := hm
    obtain ⟨x, ex, x0, x1, c0, c1⟩ := tm m (by omega)
    have KEY := Fact.mk (key x x0 x1 c0 c1)
    have RA := Fact.mk (rRange_any t)
    have rb := range_bound t
    obtain ⟨lo, hlo⟩ : ∃ lo, (rangeOf t).1 = lo := ⟨_, rfl⟩
    obtain ⟨hi, hhi⟩ : ∃ hi, (rangeOf t).2 = hi := ⟨_, rfl⟩
    rw [hlo, hhi] at KEY RA hr rb
    obtain ⟨r1, r2, r3, r4⟩ := rb
    obtain ⟨wv, hwv⟩ : ∃ wv, wrapOf t n = wv := ⟨_, rfl⟩
    rw [hwv] at KEY ⊢
    have e1 : (t == 1) = false := beq_eq_false_iff_ne.2 h1
    have e2 : (lo == hi) = false := beq_eq_false_iff_ne.2 (by omega)
    clear tm key c0 c1 hlo hhi hwv hx h1
    go_enter Try.func37, Try.ntmps37
    go_wp2_with fail
    refine (RA.out _).mono ?_
    rintro e W ⟨rfl, rfl⟩
    by_cases hl : x < lo
    · have K2 := KEY.out
      rw [if_pos hl] at K2
      by_cases hh : x + m > hi
      · exfalso; omega
      · rw [if_neg hh] at K2
        go_wp2_with fail
        go_ret
        exact ⟨rfl, rfl⟩
    · have K2 := KEY.out
      rw [if_neg hl] at K2
      by_cases hh : x > hi
      · rw [if_pos hh] at K2
        have hh2 : hi < x := hh
        go_wp2_with fail
        go_ret
        exact ⟨rfl, rfl⟩
      · rw [if_neg hh] at K2
        go_wp2_with fail
        go_ret
        exact ⟨rfl, rfl⟩
  · have hr : rangeOf t = (0, 0) := by unfold rangeOf; rw [if_neg h1, if_neg (by omega), if_neg (by omega), if_neg (by omega), if_neg (by omega)]
    have hw : wrapOf t n = 0 := by unfold wrapOf; rw [if_neg h1, if_neg (by omega), if_neg (by omega), if_neg (by omega), if_neg (by omega)]
    have RA := Fact.mk (rRange_any t)
    rw [hr] at RA
    rw [hw]
    have e1 : (t == 1) = false := beq_eq_false_iff_ne.2 h1
    clear tm hr hw hx h1
    go_enter Try.func37, Try.ntmps37
    go_wp2_with fail
    refine (RA.out _).mono ?_
    rintro e W ⟨rfl, rfl⟩
    go_wp2_with fail
    go_ret
    exact ⟨rfl, rfl⟩
set_option maxRecDepth 100000 in
theorem rZig_any (n : Int) (h1 : -1099511627776 ≤ n) (h2 : n ≤ 1099511627776) (w : World) : Calls Try.prog 57 #[.int .i64 n] w fun e w' => e = .returned (.int .u64 (zig n)) ∧ w = w' := by
  have HZ : Fact (zig n = if n < 0 then -2 * n - 1 else 2 * n) := ⟨rfl⟩
  go_enter Try.func57, Try.ntmps57
  by_cases h : n < 0
  · have a1 : IntKind.u64.wrap (-n) = -n := by rw [IntKind.wrap_u64]; omega
    go_wp2_with fail
    go_ret
    refine ⟨?_, rfl⟩
    rw [HZ.out, if_pos h]
    refine ret_int ?_
    omega
  · have a1 : IntKind.u64.wrap n = n := by rw [IntKind.wrap_u64]; omega
    go_wp2_with fail
    go_ret
    refine ⟨?_, rfl⟩
    rw [HZ.out, if_neg (by omega)]
    refine ret_int ?_
    omega
/-! ### Bytes -/
/-- On the way: what is written so far. -/
structure WrSt (w0 W : World) (v : Value) (ls : List Int) : Prop where
  bel : Below w0.heap.size w0 W
  rd : Rd oneU8 1 W v ls
theorem WrSt.next {w0 W W' : World} {v : Value} {ls : List Int} (h : WrSt w0 W v ls) {W2 : World} (hb : Below W.heap.size W W2) {l2 : List Int} {e : Ending} (hp : BytesRd W2 l2 e W') : ∃ A n c, e = .returned (.slice A n c) ∧ WrSt w0 W' (.slice A n c) l2 := by
  obtain ⟨v2, rfl, r2, b2⟩ := hp
  obtain ⟨A, n, c, rfl⟩ := rdr_slice0 r2
  exact ⟨A, n, c, rfl, (h.bel.trans (hb.mono h.bel.size)).trans (b2.mono (Nat.le_trans h.bel.size hb.size)), r2⟩
def RBytesPost (c : GCode) (w : World) (e : Ending) (w' : World) : Prop :=
  Below w.heap.size w w' ∧ if rightB c = true then ∃ v, e = .returned (.tuple #[v, .int .i64 0]) ∧ Rd oneU8 1 w' v (codeB c) else e = .returned (.tuple #[.slice none 0 0, .int .i64 130])
theorem rec_row4 {w W : World} {a b c d : Value} {T : TypeId} {o : World} (ho : o = w.alloc (.cells #[a, b, c, d] T)) (h : Below o.heap.size o W) : W.cell? ⟨w.heap.size, 0, none⟩ = some a ∧ W.cell? ⟨w.heap.size, 1, none⟩ = some b ∧ W.cell? ⟨w.heap.size, 2, none⟩ = some c ∧ W.cell? ⟨w.heap.size, 3, none⟩ = some d := by
  subst ho
  exact sc_row4 ((h.block w.heap.size (by simp)).trans (heap_alloc_new w _))
set_option maxHeartbeats 8000000 in
set_option maxRecDepth 100000 in
theorem rBytes_any (c : GCode) (hw : c.Wf) (vs bs is : Value) (w : World) (h : CodeRd w c vs bs is) :
    Calls Try.prog 29 #[.agg #[.string c.name, vs, bs, is]] w (RBytesPost c w) := by
  obtain ⟨A1, c1, rfl⟩ : ∃ A c', vs = .slice A c.vars.length c' := by obtain ⟨_, A, c', h, _⟩ := h.vars; exact ⟨A, c', h⟩
  obtain ⟨A2, c2, rfl⟩ : ∃ A c', bs = .slice A c.blocks.length c' := by obtain ⟨_, A, c', h, _⟩ := h.blocks; exact ⟨A, c', h⟩
  obtain ⟨A3, c3, rfl⟩ : ∃ A c', is = .slice A c.ins.length c' := by obtain ⟨_, A, c', h, _⟩ := h.ins; exact ⟨A, c', h⟩
  have BEL : Fact (Below w.heap.size w (bx13 w c A1 A2 A3 c1 c2 c3)) := ⟨(one_block w _).1⟩
  have H := Fact.mk (h.below BEL.out)
  have RR := Fact.mk (refRight_any c hw _ _ _ _ H.out _ rfl)
  clear h hw
  cases hR : rightB c with
  | false =>
    have HRT := Fact.mk hR
    rw [hR] at RR
    clear hR
    go_enter Try.func29, Try.ntmps29
    go_wp2_with fail
    refine RR.out.mono ?_
    rintro e W1 ⟨rfl, hb1⟩
    have B1 := Fact.mk (BEL.out.trans (hb1.mono BEL.out.size))
    clear hb1
    go_wp2_with fail
    go_ret2
    exact ⟨B1.out, by rw [HRT.out]; rfl⟩
  | true =>
    have HRT := Fact.mk hR
    rw [hR] at RR
    obtain ⟨⟨gn1, gn2⟩, gv, gb, gi1, gi2, gV, gB, gI⟩ := right_parts hR
    have GV := Fact.mk gV
    have GB := Fact.mk gB
    have GI : Fact (∀ i, (hi : i < c.ins.length) → GoodIns c.ins[i]) := ⟨fun i hi => good_ins (gI i hi) gv gb gi2⟩
    clear hR gV gB gI gn1 gi1
    obtain ⟨w0, hw0⟩ : ∃ w0, bx13 w c A1 A2 A3 c1 c2 c3 = w0 := ⟨_, rfl⟩
    have BX : Fact (∀ W, Below w0.heap.size w0 W → W.cell? ⟨w.heap.size, 0, none⟩ = some (.string c.name) ∧ W.cell? ⟨w.heap.size, 1, none⟩ = some (.slice A1 c.vars.length c1) ∧ W.cell? ⟨w.heap.size, 2, none⟩ = some (.slice A2 c.blocks.length c2) ∧ W.cell? ⟨w.heap.size, 3, none⟩ = some (.slice A3 c.ins.length c3)) := ⟨fun W hW => rec_row4 hw0.symm hW⟩
    have HW0 := Fact.mk hw0
    clear hw0
    go_enter Try.func29, Try.ntmps29
    go_wp2_with fail
    have BEL0 := Fact.mk (show w.heap.size < (bx13 w c A1 A2 A3 c1 c2 c3).heap.size by simp)
    have hw0 := HW0.out
    rw [hw0] at RR H BEL BEL0
    have hw1 : w.alloc (Obj.cells #[.string c.name, .slice A1 c.vars.length c1, .slice A2 c.blocks.length c2, .slice A3 c.ins.length c3] 32) = w0 := hw0
    rw [hw1]
    refine RR.out.mono ?_
    rintro e W1 ⟨rfl, hb1⟩
    have B1 := Fact.mk hb1
    obtain ⟨k0, k1, k2, k3⟩ := BX.out _ hb1
    clear hb1 RR hw0 hw1 HW0
    have hnm : c.name.size ≤ 9223372036854775807 := by omega
    go_wp2_with (refine wpList_conv rfl _ _ _ 5 rfl Try.underlying9 Try.underlying62 Try.underlying5 c.name rfl hnm ?_; intro cc W2 hcc hb2 hrd2; have HRD2 := Fact.mk hrd2; have HB2 := Fact.mk (B1.out.trans (hb2.mono B1.out.size)); clear hrd2 hb2)
    refine (rBlob_any W2 (.slice none 0 0) _ [] (strB c.name) (rd_nil _ _ _) HRD2.out (by simp) (by rw [strB_length]; omega)).mono ?_
    rintro e W3 hp3
    obtain ⟨A5, n5, c5, rfl, s3⟩ := WrSt.next (⟨HB2.out, rd_nil _ _ _⟩ : WrSt w0 W2 (.slice none 0 0) []) (Below.refl _ _) hp3
    have S3 := Fact.mk s3
    obtain ⟨k0, k1, k2, k3⟩ := BX.out _ s3.bel
    obtain ⟨nv, hnv⟩ : ∃ n, c.vars.length = n := ⟨_, rfl⟩
    obtain ⟨nb, hnb⟩ : ∃ n, c.blocks.length = n := ⟨_, rfl⟩
    obtain ⟨ni, hni⟩ : ∃ n, c.ins.length = n := ⟨_, rfl⟩
    have NV := Fact.mk hnv
    have NB := Fact.mk hnb
    have NI := Fact.mk hni
    rw [hnv] at gv k1 BX ⊢
    rw [hnb] at gb k2 BX ⊢
    rw [hni] at gi2 k3 BX ⊢
    have NAM : Fact (c.name.size ≤ 40) := ⟨gn2⟩
    have cv1 : IntKind.u64.wrap (nv : Int) = (nv : Int) := by rw [IntKind.wrap_u64]; omega
    have cv2 : IntKind.u64.wrap (nb : Int) = (nb : Int) := by rw [IntKind.wrap_u64]; omega
    have cv3 : IntKind.u64.wrap (ni : Int) = (ni : Int) := by rw [IntKind.wrap_u64]; omega
    clear hp3 s3 HRD2 HB2 hcc hnm hnv hnb hni
    go_wp2_with fail
    have hl1 := str_len c.name NAM.out
    refine (rUint_any W3 _ _ S3.out.rd (by simp at hl1 ⊢; omega) nv (by omega)).mono ?_
    rintro e W4 hp4
    obtain ⟨A6, n6, c6, rfl, s4⟩ := S3.out.next (Below.refl _ _) hp4
    have S4 : Fact (WrSt w0 W4 (.slice A6 n6 c6) (headB c)) := ⟨by
      have e : headB c = [] ++ (uintB (strB c.name).length ++ strB c.name) ++ uintB nv := by unfold headB; rw [NV.out, uB_nat]; rfl
      rw [e]; exact s4⟩
    clear hp4 s4 k0 k1 k2 k3 hl1 S3
    obtain ⟨k0, k1, k2, k3⟩ := BX.out _ S4.out.bel
    go_wp2_with fail
    go_loopw [4, 5] (fun v i wr => ∃ (k : Nat) (A : Option Addr) (n q : Nat), k ≤ nv ∧ v = .slice A n q ∧ i = .int .i64 k ∧ Fact (WrSt w0 wr (.slice A n q) (headB c ++ (c.vars.take k).flatMap varB))) (fun _ i _ => nv - (intOf i).toNat)
    case atStart => exact ⟨0, _, _, _, Nat.zero_le _, rfl, rfl, ⟨by simpa using S4.out⟩⟩
    case round =>
      clear S4 k0 k1 k2 k3
      obtain ⟨k, A, n, q, hk, rfl, rfl, S⟩ := hrel
      obtain ⟨k0, k1, k2, k3⟩ := BX.out _ S.out.bel
      have l0 : w.heap.size < wr.heap.size := Nat.lt_of_lt_of_le BEL0.out S.out.bel.size
      by_cases hlt : k < nv
      · have hkl : k < c.vars.length := by rw [NV.out]; exact hlt
        have g := (GV.out k hkl).1
        obtain ⟨ls, hls⟩ : ∃ ls, headB c ++ (c.vars.take k).flatMap varB = ls := ⟨_, rfl⟩
        have HL : Fact (ls.length ≤ 20000) := ⟨by
          have e1 := headB_len c NAM.out (by rw [NV.out]; omega)
          have e2 := flatMap_le varB 80 (c.vars.take k) (fun x hx => by
            obtain ⟨i, hi, rfl⟩ := List.getElem_of_mem (List.mem_of_mem_take hx)
            exact varB_len (GV.out i hi).1)
          rw [List.length_take] at e2
          rw [← hls, List.length_append]
          omega⟩
        rw [hls] at S
        have HLS := Fact.mk hls
        clear hls
        obtain ⟨b, off, rfl, hcl⟩ : ∃ b off, A1 = some ⟨b, off, none⟩ ∧ ∀ j, (h : j < c.vars.length) → ∀ i u, (encVar c.vars[j])[i]? = some u → wr.cell? ⟨b, off + j * 4 + i, none⟩ = some u := by
          obtain ⟨_, A', c', e, _, _, hc⟩ := (H.out.below S.out.bel).vars
          injection e with e1 _ _
          subst e1
          exact hc (by omega)
        have q0 := hcl k hkl 0 _ rfl
        have q1 := hcl k hkl 1 _ rfl
        have q2 := hcl k hkl 2 _ rfl
        have q3 := hcl k hkl 3 _ rfl
        have HSN := Fact.mk (flatMap_take varB c.vars k hkl)
        clear hcl
        obtain ⟨y, hy⟩ : ∃ y, c.vars[k] = y := ⟨_, rfl⟩
        rw [hy] at g q0 q1 q2 q3 HSN
        clear hy hkl
        obtain ⟨nm, cls, ty, first⟩ := y
        obtain ⟨⟨gn1', gn2'⟩, ⟨gc1, gc2⟩, ⟨gt1, gt2⟩, ⟨gf1, gf2⟩⟩ := g
        obtain ⟨rb1, rb2, rb3, rb4⟩ := range_bound ty
        obtain ⟨lo, hlo⟩ : ∃ lo, (rangeOf ty).1 = lo := ⟨_, rfl⟩
        obtain ⟨hi, hhi⟩ : ∃ hi, (rangeOf ty).2 = hi := ⟨_, rfl⟩
        have RG := Fact.mk (rRange_any ty)
        simp only at gn1' gn2' gc1 gc2 gt1 gt2 gf1 gf2
        rw [hlo] at gf1 rb1 rb2
        rw [hhi] at gf2 rb3 rb4
        rw [hlo, hhi] at RG
        obtain ⟨cn, rfl⟩ : ∃ n : Nat, cls = n := ⟨cls.toNat, by omega⟩
        obtain ⟨tn, rfl⟩ : ∃ n : Nat, ty = n := ⟨ty.toNat, by omega⟩
        obtain ⟨dn, hdn⟩ : ∃ n : Nat, first - lo = n := ⟨(first - lo).toNat, by omega⟩
        have HV : Fact (varB ⟨nm, cn, tn, first⟩ = uintB (strB nm).length ++ strB nm ++ (uintB cn ++ uintB tn ++ uintB dn)) := ⟨by
          unfold varB
          simp only [uB_nat]
          rw [hlo, hdn, uB_nat]⟩
        replace q0 : wr.cell? ⟨b, off + k * 4, none⟩ = some (.string nm) := q0
        replace q1 : wr.cell? ⟨b, off + k * 4 + 1, none⟩ = some (.int .u8 cn) := q1
        replace q2 : wr.cell? ⟨b, off + k * 4 + 2, none⟩ = some (.int .u8 tn) := q2
        replace q3 : wr.cell? ⟨b, off + k * 4 + 3, none⟩ = some (.int .i64 first) := q3
        have hnm' : nm.size ≤ 9223372036854775807 := by omega
        have hk1 : (k : Int) < (nv : Int) := by omega
        have cv4 : IntKind.u64.wrap (cn : Int) = (cn : Int) := by rw [IntKind.wrap_u64]; omega
        have cv5 : IntKind.u64.wrap (tn : Int) = (tn : Int) := by rw [IntKind.wrap_u64]; omega
        have cv6 : IntKind.u64.wrap (dn : Int) = (dn : Int) := by rw [IntKind.wrap_u64]; omega
        have SZ : Fact (nm.size ≤ 40 ∧ cn ≤ 255 ∧ tn ≤ 255 ∧ dn ≤ 8589934592) := ⟨by omega, by omega, by omega, by omega⟩
        have OB := one_block wr (.cells #[.string nm, .int .u8 cn, .int .u8 tn, .int .i64 first] 41)
        have O1 := Fact.mk OB.1
        have O2 := Fact.mk OB.2.1
        have O3 := Fact.mk OB.2.2
        clear hlo hhi OB
        go_wp2_with (first | (go_at_call 32; refine (RG.out _).mono ?_; rintro e w' ⟨rfl, rfl⟩) | (refine wpList_conv rfl _ _ _ 5 rfl Try.underlying9 Try.underlying62 Try.underlying5 nm rfl hnm' ?_; intro cc W2 hcc hb2 hrd2; have HRD2 := Fact.mk hrd2; have HB2 := Fact.mk hb2; clear hrd2 hb2))
        have W2b := Fact.mk (O1.out.trans (HB2.out.mono O1.out.size))
        have R2 := Fact.mk ((HB2.out.block wr.heap.size (by rw [O3.out]; omega)).trans O2.out)
        have hrd : Rd oneU8 1 W2 (.slice (some ⟨wr.heap.size + 1, 0, none⟩) nm.size cc) (strB nm) := by have := HRD2.out; rwa [O3.out] at this
        refine (rBlob_any W2 _ _ _ (strB nm) (S.out.rd.below W2b.out) hrd (by have := HL.out; omega) (by rw [strB_length]; omega)).mono ?_
        rintro e W3 hp3
        have hb3 : Below W2.heap.size W2 W3 := by obtain ⟨_, _, _, b⟩ := hp3; exact b
        obtain ⟨A5, n5, c5, rfl, s3⟩ := S.out.next W2b.out hp3
        have S3 := Fact.mk s3
        have R3 := Fact.mk ((hb3.block wr.heap.size (Array.getElem?_eq_some_iff.1 R2.out).1).trans R2.out)
        have HL3 : Fact ((ls ++ (uintB (strB nm).length ++ strB nm)).length ≤ 20100) := ⟨by
          have h1 := str_len nm gn2'
          have h2 := HL.out
          rw [List.length_append]
          omega⟩
        obtain ⟨l3, hl3⟩ : ∃ l3, ls ++ (uintB (strB nm).length ++ strB nm) = l3 := ⟨_, rfl⟩
        rw [hl3] at S3 HL3
        have HL3E := Fact.mk hl3
        clear hp3 hb3 s3 hrd HRD2 HB2 W2b R2 O1 O2 O3 hcc hl3 q0 q1 q2 q3 k0 k1 k2 k3 hnm' gn1' gn2' gc1 gc2 gt1 gt2
        have RD3 : Fact (Rd oneU8 1 W3.drew (.slice A5 n5 c5) l3) := ⟨S3.out.rd.below (Below.refl _ _).drew⟩
        have KEEP : Fact (∀ W' : World, Fact (Below W3.heap.size W3 W') → W'.cell? ⟨wr.heap.size, 1, none⟩ = some (.int .u8 cn) ∧ W'.cell? ⟨wr.heap.size, 2, none⟩ = some (.int .u8 tn) ∧ Fact (Below W3.heap.size W3 W')) := ⟨fun W' hW => by
          have := sc_row4 ((hW.out.block wr.heap.size (Array.getElem?_eq_some_iff.1 R3.out).1).trans R3.out)
          exact ⟨this.2.1, this.2.2.1, hW⟩⟩
        go_upto_region 11 with (fail)
        go_cut [4] from 48 to 56 (fun s wx => ∃ A n q, s = .slice A n q ∧ Fact (WrSt w0 wx (.slice A n q) (l3 ++ uintB cn ++ uintB tn) ∧ wx.heap[wr.heap.size]? = some (.cells #[.string nm, .int .u8 cn, .int .u8 tn, .int .i64 first] 41 (0, 0))))
        case first =>
          go_region_held3 (fun W' => W'.cell? ⟨wr.heap.size, 1, none⟩ = some (.int .u8 cn) ∧ W'.cell? ⟨wr.heap.size, 2, none⟩ = some (.int .u8 tn) ∧ Fact (Below W3.heap.size W3 W'))
            (first | exact KEEP.out _ ⟨(Below.refl _ _).drew⟩ | exact KEEP.out _ (by assumption) | assumption)
            (first | (go_at_call 56; (with_reducible refine (rUint_any _ _ _ R6.out (by have := HL3.out; have := (uint_len (n := cn) (by have := SZ.out; omega)).2; rw [List.length_append]; omega) tn (by have := SZ.out; omega)).mono ?_); rintro e W7 ⟨v7, rfl, r7, b7⟩; obtain ⟨A7, n7, c7, rfl⟩ := rdr_slice0 r7; have R7 := Fact.mk r7; have HB7 : Fact (Below W3.heap.size W3 W7) := ⟨HB6.out.trans (b7.mono HB6.out.size)⟩; clear r7 b7) | (go_at_call 56; (with_reducible refine (rUint_any _ _ _ RD3.out (by have := HL3.out; omega) cn (by have := SZ.out; omega)).mono ?_); rintro e W6 ⟨v6, rfl, r6, b6⟩; obtain ⟨A6, n6, c6, rfl⟩ := rdr_slice0 r6; have R6 := Fact.mk r6; have HB6 : Fact (Below W3.heap.size W3 W6) := ⟨((Below.refl _ _).drew).trans (b6.mono (Nat.le_refl _))⟩; clear r6 b6))
          all_goals (go_wp2_with fail; go_meet; exact ⟨_, _, _, rfl, ⟨⟨S3.out.bel.trans (HB7.out.mono S3.out.bel.size), R7.out⟩, (HB7.out.block wr.heap.size (Array.getElem?_eq_some_iff.1 R3.out).1).trans R3.out⟩⟩)
        case rest =>
          clear KEEP RD3
          obtain ⟨A6, n6, c6, rfl, S5⟩ := hcut
          obtain ⟨-, -, -, x3⟩ := sc_row4 S5.out.2
          go_wp2_with fail
          refine (rUint_any wc _ _ S5.out.1.rd (by have := HL3.out; have := (uint_len (n := cn) (by have := SZ.out; omega)).2; have := (uint_len (n := tn) (by have := SZ.out; omega)).2; rw [List.length_append, List.length_append]; omega) dn (by have := SZ.out; omega)).mono ?_
          rintro e W9 hp9
          obtain ⟨A9, n9, c9, rfl, s9⟩ := S5.out.1.next (Below.refl _ _) hp9
          have S9 : Fact (WrSt w0 W9 (.slice A9 n9 c9) (headB c ++ (c.vars.take (k + 1)).flatMap varB)) := ⟨by
            rw [HSN.out, HV.out, ← List.append_assoc, HLS.out]
            have := HL3E.out
            simp only [← List.append_assoc] at this s9 ⊢
            rw [this]
            exact s9⟩
          clear hp9 s9 x3 S5
          go_wp2_with fail
          go_roundw
          case rel => exact ⟨k + 1, _, _, _, by omega, rfl, by go_num, S9⟩
          case measure => simp [intOf]; omega
      · have hke : k = nv := by omega
        subst hke
        have S5 := Fact.mk S.out
        clear S hlt hk
        go_wp2_with fail
        have e1 := headB_len c NAM.out (by rw [NV.out]; omega)
        have HL : Fact ((headB c ++ (c.vars.take k).flatMap varB).length ≤ 20000) := ⟨by
          have e2 := flatMap_le varB 80 (c.vars.take k) (fun x hx => by
            obtain ⟨i, hi, rfl⟩ := List.getElem_of_mem (List.mem_of_mem_take hx)
            exact varB_len (GV.out i hi).1)
          rw [List.length_take] at e2
          rw [List.length_append]
          omega⟩
        refine (rUint_any wr _ _ S5.out.rd (by have := HL.out; omega) nb (by omega)).mono ?_
        rintro e W4 hp4
        obtain ⟨A6, n6, c6, rfl, s4⟩ := S5.out.next (Below.refl _ _) hp4
        obtain ⟨l2, hl2⟩ : ∃ l2, headB c ++ c.vars.flatMap varB ++ uB c.blocks.length = l2 := ⟨_, rfl⟩
        have HL2E := Fact.mk hl2
        have hte : c.vars.take k = c.vars := by rw [List.take_of_length_le (by rw [NV.out]; omega)]
        have S4 : Fact (WrSt w0 W4 (.slice A6 n6 c6) l2) := ⟨by rw [← hl2, NB.out, uB_nat, ← hte]; exact s4⟩
        have HL2 : Fact (l2.length ≤ 20010) := ⟨by
          have := HL.out
          rw [hte] at this
          rw [← hl2, NB.out, uB_nat, List.length_append]
          have := (uint_len (n := nb) (by omega)).2
          omega⟩
        clear hp4 s4 k0 k1 k2 k3 S5 e1 hl2 hte HL
        obtain ⟨k0, k1, k2, k3⟩ := BX.out _ S4.out.bel
        go_wp2_with fail
        go_loopw [4, 9] (fun v i wr => ∃ (j : Nat) (A : Option Addr) (n q : Nat), j ≤ nb ∧ v = .slice A n q ∧ i = .int .i64 j ∧ Fact (WrSt w0 wr (.slice A n q) (l2 ++ (c.blocks.take j).flatMap uB))) (fun _ i _ => nb - (intOf i).toNat)
        case atStart => exact ⟨0, _, _, _, Nat.zero_le _, rfl, rfl, ⟨by simpa using S4.out⟩⟩
        case round =>
          clear S4 k0 k1 k2 k3
          obtain ⟨j, A, n, q, hj, rfl, rfl, S⟩ := hrel
          obtain ⟨k0, k1, k2, k3⟩ := BX.out _ S.out.bel
          have l0 : w.heap.size < wr.heap.size := Nat.lt_of_lt_of_le BEL0.out S.out.bel.size
          by_cases hlt : j < nb
          · have hjl : j < c.blocks.length := by rw [NB.out]; exact hlt
            have g := GB.out j hjl
            obtain ⟨ls, hls⟩ : ∃ ls, l2 ++ (c.blocks.take j).flatMap uB = ls := ⟨_, rfl⟩
            have HL : Fact (ls.length ≤ 22000) := ⟨by
              have e1 := HL2.out
              have e2 := flatMap_le uB 10 (c.blocks.take j) (fun x hx => by
                obtain ⟨i, hi, rfl⟩ := List.getElem_of_mem (List.mem_of_mem_take hx)
                exact by
                  have := GB.out i hi
                  exact uB_len _ ⟨by omega, by omega⟩)
              rw [List.length_take] at e2
              rw [← hls, List.length_append]
              omega⟩
            rw [hls] at S
            have HLS := Fact.mk hls
            clear hls
            obtain ⟨b, off, rfl, hcl⟩ : ∃ b off, A2 = some ⟨b, off, none⟩ ∧ ∀ j, (h : j < c.blocks.length) → ∀ i u, (oneU8 c.blocks[j])[i]? = some u → wr.cell? ⟨b, off + j * 1 + i, none⟩ = some u := by
              obtain ⟨_, A', c', e, _, _, hc⟩ := (H.out.below S.out.bel).blocks
              injection e with e1 _ _
              subst e1
              exact hc (by omega)
            have q0 := hcl j hjl 0 _ rfl
            have HSN := Fact.mk (flatMap_take uB c.blocks j hjl)
            clear hcl
            obtain ⟨y, hy⟩ : ∃ y, c.blocks[j] = y := ⟨_, rfl⟩
            rw [hy] at g q0 HSN
            clear hy hjl
            obtain ⟨bn, rfl⟩ : ∃ n : Nat, y = n := ⟨y.toNat, by omega⟩
            replace q0 : wr.cell? ⟨b, off + j, none⟩ = some (.int .u8 bn) := by simpa using q0
            have hk1 : (j : Int) < (nb : Int) := by omega
            have cv4 : IntKind.u64.wrap (bn : Int) = (bn : Int) := by rw [IntKind.wrap_u64]; omega
            have hbn : bn ≤ 11 := by omega
            clear g
            go_wp2_with fail
            refine (rUint_any wr _ _ S.out.rd (by have := HL.out; omega) bn (by omega)).mono ?_
            rintro e W9 hp9
            obtain ⟨A9, n9, c9, rfl, s9⟩ := S.out.next (Below.refl _ _) hp9
            have S9 : Fact (WrSt w0 W9 (.slice A9 n9 c9) (l2 ++ (c.blocks.take (j + 1)).flatMap uB)) := ⟨by
              rw [HSN.out, ← List.append_assoc, HLS.out, uB_nat]
              exact s9⟩
            clear hp9 s9 q0
            go_wp2_with fail
            go_roundw
            case rel => exact ⟨j + 1, _, _, _, by omega, rfl, by go_num, S9⟩
            case measure => simp [intOf]; omega
          · have hje : j = nb := by omega
            subst hje
            have S5 := Fact.mk S.out
            clear S hlt hj
            have HL : Fact ((l2 ++ (c.blocks.take j).flatMap uB).length ≤ 22000) := ⟨by
              have e1 := HL2.out
              have e2 := flatMap_le uB 10 (c.blocks.take j) (fun x hx => by
                obtain ⟨i, hi, rfl⟩ := List.getElem_of_mem (List.mem_of_mem_take hx)
                have := GB.out i hi
                exact uB_len _ ⟨by omega, by omega⟩)
              rw [List.length_take] at e2
              rw [List.length_append]
              omega⟩
            go_wp2_with fail
            refine (rUint_any wr _ _ S5.out.rd (by have := HL.out; omega) ni (by omega)).mono ?_
            rintro e W4 hp4
            obtain ⟨A6, n6, c6, rfl, s4⟩ := S5.out.next (Below.refl _ _) hp4
            obtain ⟨l4, hl4⟩ : ∃ l4, l2 ++ c.blocks.flatMap uB ++ uB c.ins.length = l4 := ⟨_, rfl⟩
            have HL4E := Fact.mk hl4
            have hte : c.blocks.take j = c.blocks := by rw [List.take_of_length_le (by rw [NB.out]; omega)]
            have S4 : Fact (WrSt w0 W4 (.slice A6 n6 c6) l4) := ⟨by rw [← hl4, NI.out, uB_nat, ← hte]; exact s4⟩
            have HL4 : Fact (l4.length ≤ 22010) := ⟨by
              have := HL.out
              rw [hte] at this
              rw [← hl4, NI.out, uB_nat, List.length_append]
              have := (uint_len (n := ni) (by omega)).2
              omega⟩
            clear hp4 s4 k0 k1 k2 k3 S5 hl4 hte HL
            obtain ⟨k0, k1, k2, k3⟩ := BX.out _ S4.out.bel
            go_wp2_with fail
            go_loopw [4, 10] (fun v i wr => ∃ (m : Nat) (A : Option Addr) (n q : Nat), m ≤ ni ∧ v = .slice A n q ∧ i = .int .i64 m ∧ Fact (WrSt w0 wr (.slice A n q) (l4 ++ (c.ins.take m).flatMap insB))) (fun _ i _ => ni - (intOf i).toNat)
            case atStart => exact ⟨0, _, _, _, Nat.zero_le _, rfl, rfl, ⟨by simpa using S4.out⟩⟩
            case round =>
              clear S4 k0 k1 k2 k3
              obtain ⟨m, A, n, q, hm, rfl, rfl, S⟩ := hrel
              obtain ⟨k0, k1, k2, k3⟩ := BX.out _ S.out.bel
              have l0 : w.heap.size < wr.heap.size := Nat.lt_of_lt_of_le BEL0.out S.out.bel.size
              by_cases hlt : m < ni
              · have hml : m < c.ins.length := by rw [NI.out]; exact hlt
                have g := GI.out m hml
                obtain ⟨ls, hls⟩ : ∃ ls, l4 ++ (c.ins.take m).flatMap insB = ls := ⟨_, rfl⟩
                have HL : Fact (ls.length ≤ 110000) := ⟨by
                  have e1 := HL4.out
                  have e2 := flatMap_le insB 40 (c.ins.take m) (fun x hx => by
                    obtain ⟨i, hi, rfl⟩ := List.getElem_of_mem (List.mem_of_mem_take hx)
                    exact insB_len (GI.out i hi))
                  rw [List.length_take] at e2
                  rw [← hls, List.length_append]
                  omega⟩
                rw [hls] at S
                have HLS := Fact.mk hls
                clear hls
                obtain ⟨b, off, rfl, hcl⟩ : ∃ b off, A3 = some ⟨b, off, none⟩ ∧ ∀ j, (h : j < c.ins.length) → ∀ i u, (encIns c.ins[j])[i]? = some u → wr.cell? ⟨b, off + j * 4 + i, none⟩ = some u := by
                  obtain ⟨_, A', c', e, _, _, hc⟩ := (H.out.below S.out.bel).ins
                  injection e with e1 _ _
                  subst e1
                  exact hc (by omega)
                have q0 := hcl m hml 0 _ rfl
                have q1 := hcl m hml 1 _ rfl
                have q2 := hcl m hml 2 _ rfl
                have q3 := hcl m hml 3 _ rfl
                have HSN := Fact.mk (flatMap_take insB c.ins m hml)
                clear hcl
                obtain ⟨y, hy⟩ : ∃ y, c.ins[m] = y := ⟨_, rfl⟩
                rw [hy] at g q0 q1 q2 q3 HSN
                clear hy hml
                obtain ⟨op, ty, a, z⟩ := y
                obtain ⟨⟨go1, go2⟩, ⟨gt1, gt2⟩, ⟨ga1, ga2⟩, ⟨gz1, gz2⟩⟩ := g
                simp only at go1 go2 gt1 gt2 ga1 ga2 gz1 gz2
                obtain ⟨on, rfl⟩ : ∃ n : Nat, op = n := ⟨op.toNat, by omega⟩
                obtain ⟨tn, rfl⟩ : ∃ n : Nat, ty = n := ⟨ty.toNat, by omega⟩
                obtain ⟨an, rfl⟩ : ∃ n : Nat, a = n := ⟨a.toNat, by omega⟩
                have hz0 := zig_nonneg z
                have hzb : zig z ≤ 17179869184 := by unfold zig; split <;> omega
                obtain ⟨zn, hzn⟩ : ∃ n : Nat, zig z = n := ⟨(zig z).toNat, by omega⟩
                have ZG := Fact.mk (fun W => rZig_any z (by omega) (by omega) W)
                rw [hzn] at ZG hzb
                have HV : Fact (insB ⟨on, tn, an, z⟩ = uintB on ++ uintB tn ++ uintB an ++ uintB zn) := ⟨by
                  unfold insB
                  simp only [uB_nat]
                  rw [hzn, uB_nat]⟩
                replace q0 : wr.cell? ⟨b, off + m * 4, none⟩ = some (.int .u8 on) := q0
                replace q1 : wr.cell? ⟨b, off + m * 4 + 1, none⟩ = some (.int .u8 tn) := q1
                replace q2 : wr.cell? ⟨b, off + m * 4 + 2, none⟩ = some (.int .i64 an) := q2
                replace q3 : wr.cell? ⟨b, off + m * 4 + 3, none⟩ = some (.int .i64 z) := q3
                have hk1 : (m : Int) < (ni : Int) := by omega
                have cv4 : IntKind.u64.wrap (on : Int) = (on : Int) := by rw [IntKind.wrap_u64]; omega
                have cv5 : IntKind.u64.wrap (tn : Int) = (tn : Int) := by rw [IntKind.wrap_u64]; omega
                have cv6 : IntKind.u64.wrap (an : Int) = (an : Int) := by rw [IntKind.wrap_u64]; omega
                have SZ : Fact (on ≤ 255 ∧ tn ≤ 2000 ∧ an ≤ 2000 ∧ zn ≤ 17179869184) := ⟨by omega, by omega, by omega, by omega⟩
                have OB := one_block wr (.cells #[.int .u8 on, .int .u8 tn, .int .i64 an, .int .i64 z] 38)
                go_upto_region 23 with (fail)
                have S3 : Fact (WrSt w0 (wr.alloc (.cells #[.int .u8 on, .int .u8 tn, .int .i64 an, .int .i64 z] 38)) (.slice A n q) ls) := ⟨S.out.bel.trans (OB.1.mono S.out.bel.size), S.out.rd.below OB.1⟩
                have R3 := Fact.mk OB.2.1
                have HL3 : Fact (ls.length ≤ 110000) := HL
                clear OB q0 q1 q2 q3 k0 k1 k2 k3 hzn hz0 hzb go1 go2 gt1 gt2 ga1 ga2 gz1 gz2
                generalize wr.alloc (.cells #[.int .u8 on, .int .u8 tn, .int .i64 an, .int .i64 z] 38) = W3 at *
                have RD3 : Fact (Rd oneU8 1 W3.drew (.slice A n q) ls) := ⟨S3.out.rd.below (Below.refl _ _).drew⟩
                have KEEP : Fact (∀ W' : World, Fact (Below W3.heap.size W3 W') → W'.cell? ⟨wr.heap.size, 0, none⟩ = some (.int .u8 on) ∧ W'.cell? ⟨wr.heap.size, 1, none⟩ = some (.int .u8 tn) ∧ Fact (Below W3.heap.size W3 W')) := ⟨fun W' hW => by
                  have := sc_row4 ((hW.out.block wr.heap.size (Array.getElem?_eq_some_iff.1 R3.out).1).trans R3.out)
                  exact ⟨this.1, this.2.1, hW⟩⟩
                go_cut [4] from 103 to 111 (fun s wx => ∃ A n q, s = .slice A n q ∧ Fact (WrSt w0 wx (.slice A n q) (ls ++ uintB on ++ uintB tn) ∧ wx.heap[wr.heap.size]? = some (.cells #[.int .u8 on, .int .u8 tn, .int .i64 an, .int .i64 z] 38 (0, 0))))
                case first =>
                  go_region_held3 (fun W' => W'.cell? ⟨wr.heap.size, 0, none⟩ = some (.int .u8 on) ∧ W'.cell? ⟨wr.heap.size, 1, none⟩ = some (.int .u8 tn) ∧ Fact (Below W3.heap.size W3 W'))
                    (first | exact KEEP.out _ ⟨(Below.refl _ _).drew⟩ | exact KEEP.out _ (by assumption) | assumption)
                    (first | (go_at_call 56; (with_reducible refine (rUint_any _ _ _ R6.out (by have := HL3.out; have := (uint_len (n := on) (by have := SZ.out; omega)).2; rw [List.length_append]; omega) tn (by have := SZ.out; omega)).mono ?_); rintro e W7 ⟨v7, rfl, r7, b7⟩; obtain ⟨A7, n7, c7, rfl⟩ := rdr_slice0 r7; have R7 := Fact.mk r7; have HB7 : Fact (Below W3.heap.size W3 W7) := ⟨HB6.out.trans (b7.mono HB6.out.size)⟩; clear r7 b7) | (go_at_call 56; (with_reducible refine (rUint_any _ _ _ RD3.out (by have := HL3.out; omega) on (by have := SZ.out; omega)).mono ?_); rintro e W6 ⟨v6, rfl, r6, b6⟩; obtain ⟨A6, n6, c6, rfl⟩ := rdr_slice0 r6; have R6 := Fact.mk r6; have HB6 : Fact (Below W3.heap.size W3 W6) := ⟨((Below.refl _ _).drew).trans (b6.mono (Nat.le_refl _))⟩; clear r6 b6))
                  all_goals (go_wp2_with fail; go_meet; exact ⟨_, _, _, rfl, ⟨⟨S3.out.bel.trans (HB7.out.mono S3.out.bel.size), R7.out⟩, (HB7.out.block wr.heap.size (Array.getElem?_eq_some_iff.1 R3.out).1).trans R3.out⟩⟩)
                case rest =>
                  clear KEEP RD3
                  obtain ⟨A6, n6, c6, rfl, S5⟩ := hcut
                  obtain ⟨W5, hW5⟩ : ∃ W, wc = W := ⟨_, rfl⟩
                  rw [hW5] at S5 ⊢
                  have S6 := Fact.mk S5.out.1
                  have R5 := Fact.mk S5.out.2
                  obtain ⟨l5, hl5⟩ : ∃ l5, ls ++ uintB on ++ uintB tn = l5 := ⟨_, rfl⟩
                  rw [hl5] at S6
                  have HL5E := Fact.mk hl5
                  have HL5 : Fact (l5.length ≤ 110100) := ⟨by
                    have h1 := HL3.out
                    have h2 := (uint_len (n := on) (by have := SZ.out; omega)).2
                    have h3 := (uint_len (n := tn) (by have := SZ.out; omega)).2
                    rw [← hl5, List.length_append, List.length_append]
                    omega⟩
                  clear S5 hl5 S3 R3 hW5
                  have RD5 : Fact (Rd oneU8 1 W5.drew (.slice A6 n6 c6) l5) := ⟨S6.out.rd.below (Below.refl _ _).drew⟩
                  have KEEP : Fact (∀ W' : World, Fact (Below W5.heap.size W5 W') → W'.cell? ⟨wr.heap.size, 2, none⟩ = some (.int .i64 an) ∧ W'.cell? ⟨wr.heap.size, 3, none⟩ = some (.int .i64 z) ∧ Fact (Below W5.heap.size W5 W')) := ⟨fun W' hW => by
                    have := sc_row4 ((hW.out.block wr.heap.size (Array.getElem?_eq_some_iff.1 R5.out).1).trans R5.out)
                    exact ⟨this.2.2.1, this.2.2.2, hW⟩⟩
                  go_upto_region 24 with (fail)
                  go_region_held3 (fun W' => W'.cell? ⟨wr.heap.size, 2, none⟩ = some (.int .i64 an) ∧ W'.cell? ⟨wr.heap.size, 3, none⟩ = some (.int .i64 z) ∧ Fact (Below W5.heap.size W5 W'))
                    (first | exact KEEP.out _ ⟨(Below.refl _ _).drew⟩ | exact KEEP.out _ (by assumption) | assumption)
                    (first | (go_at_call 57; (with_reducible refine (ZG.out _).mono ?_); rintro e W8 ⟨rfl, rfl⟩; first | have HB8 := HB6 | have HB8 : Fact (Below W5.heap.size W5 W5.drew) := ⟨(Below.refl _ _).drew⟩) | (go_at_call 56; (with_reducible refine (rUint_any _ _ _ R6.out (by have := HL5.out; have := (uint_len (n := an) (by have := SZ.out; omega)).2; rw [List.length_append]; omega) zn (by have := SZ.out; omega)).mono ?_); rintro e W7 ⟨v7, rfl, r7, b7⟩; obtain ⟨A7, n7, c7, rfl⟩ := rdr_slice0 r7; have R7 := Fact.mk r7; have HB7 : Fact (Below W5.heap.size W5 W7) := ⟨HB6.out.trans (b7.mono HB6.out.size)⟩; clear r7 b7) | (go_at_call 56; (with_reducible refine (rUint_any _ _ _ RD5.out (by have := HL5.out; omega) an (by have := SZ.out; omega)).mono ?_); rintro e W6 ⟨v6, rfl, r6, b6⟩; obtain ⟨A6, n6, c6, rfl⟩ := rdr_slice0 r6; have R6 := Fact.mk r6; have HB6 : Fact (Below W5.heap.size W5 W6) := ⟨((Below.refl _ _).drew).trans (b6.mono (Nat.le_refl _))⟩; clear r6 b6))
                  all_goals
                    have S9 : Fact (WrSt w0 W7 (.slice A7 n7 c7) (l4 ++ (c.ins.take (m + 1)).flatMap insB)) := ⟨by
                      rw [HSN.out, HV.out, ← List.append_assoc, HLS.out]
                      have h5 := HL5E.out
                      have := R7.out
                      rw [← h5] at this
                      simp only [← List.append_assoc] at this ⊢
                      exact ⟨S6.out.bel.trans (HB7.out.mono S6.out.bel.size), this⟩⟩
                    go_wp2_with fail
                    go_roundw
                    case rel => exact ⟨m + 1, _, _, _, by omega, rfl, by go_num, S9⟩
                    case measure => simp [intOf]; omega
              · have hme : m = ni := by omega
                subst hme
                have SE : Fact (WrSt w0 wr (.slice A n q) (codeB c)) := ⟨by
                  have hte : c.ins.take m = c.ins := by rw [List.take_of_length_le (by rw [NI.out]; omega)]
                  have := S.out
                  rw [hte, ← HL4E.out, ← HL2E.out] at this
                  unfold codeB
                  exact this⟩
                clear S hlt hm
                go_wp2_with fail
                go_ret2
                exact ⟨BEL.out.trans (SE.out.bel.mono BEL.out.size), by rw [HRT.out]; exact ⟨_, rfl, SE.out.rd⟩⟩
end Go.Proofs.Ythiapebodpkamaa

