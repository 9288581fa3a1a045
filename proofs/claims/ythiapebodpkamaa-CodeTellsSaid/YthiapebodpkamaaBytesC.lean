/- The contract of code.Bytes. -/
import Derived.Test.YthiapebodpkamaaPut
import Derived.Test.YthiapebodpkamaaRightC
import Derived.Test.YthiapebodpkamaaRightLaw
import Derived.Test.YthiapebodpkamaaConv
import Derived.Outline
namespace Go.Proofs.Ythiapebodpkamaa
open Go.RowKit Go.Shelf
def varB (v : GVar) : List Int := uintB (strB v.name).length ++ strB v.name ++ (uB v.cls ++ uB v.ty ++ uB (v.first - (rangeOf v.ty).1))
def zig (n : Int) : Int := if n < 0 then -2 * n - 1 else 2 * n
def insB (i : GIns) : List Int := uB i.op ++ uB i.t ++ uB i.a ++ uB (zig i.n)
def headB (c : GCode) : List Int := uintB (strB c.name).length ++ strB c.name ++ uB c.vars.length
def codeB (c : GCode) : List Int := headB c ++ c.vars.flatMap varB ++ uB c.blocks.length ++ c.blocks.flatMap uB ++ uB c.ins.length ++ c.ins.flatMap insB
def BytesPost (c : GCode) (w : World) (e : Ending) (w' : World) : Prop := ∃ v, e = .returned (.tuple #[v, .int .i64 0]) ∧ Own 5 1 oneU8 w' w.heap.size v (codeB c) ∧ Below w.heap.size w w'
theorem zig_bits (n : Int) (h1 : -2147483648 ≤ n) (h2 : n ≤ 4294967295) : IntKind.u64.wrap (bits .xor .i64 (n * 2) (n / 9223372036854775808)) = zig n := by
  have e : bits .xor .i64 (n * 2) (n / 9223372036854775808) = zig n := by
    show IntKind.i64.wrap ((BitVec.ofInt 64 (n * 2) ^^^ BitVec.ofInt 64 (n / 9223372036854775808)).toNat : Int) = _
    by_cases h : 0 ≤ n
    · rw [show n / 9223372036854775808 = 0 by omega, show BitVec.ofInt 64 0 = 0#64 from rfl, BitVec.xor_zero, BitVec.toNat_ofInt, IntKind.wrap_i64, zig, if_neg (by omega)]
      omega
    · rw [show n / 9223372036854775808 = -1 by omega, show BitVec.ofInt 64 (-1) = BitVec.allOnes 64 from by decide, BitVec.xor_allOnes, BitVec.toNat_not, BitVec.toNat_ofInt, IntKind.wrap_i64, zig, if_pos (by omega)]
      omega
  rw [e, IntKind.wrap_u64, zig]
  split <;> omega
theorem uB_len (n : Int) (h : U64 n) : (uB n).length ≤ 10 := by
  rw [uB, uintB_length]
  exact digitsOf_le (by have := h.le; omega)
theorem flatMap_le {α β : Type} (f : α → List β) (m : Nat) (l : List α) (h : ∀ x ∈ l, (f x).length ≤ m) : (l.flatMap f).length ≤ m * l.length := by
  induction l with
  | nil => simp
  | cons x l ih =>
    have h1 := h x (by simp)
    have h2 := ih (fun y hy => h y (by simp [hy]))
    rw [List.flatMap_cons, List.length_append, List.length_cons, Nat.mul_add]
    omega
theorem flatMap_take {α β : Type} (f : α → List β) (l : List α) (k : Nat) (h : k < l.length) : (l.take (k + 1)).flatMap f = (l.take k).flatMap f ++ f l[k] := by
  rw [List.take_succ_eq_append_getElem h, List.flatMap_append]
  simp
theorem str_len (s : ByteArray) (h : s.size ≤ 40) : (uintB (strB s).length ++ strB s).length ≤ 50 := by
  have := digitsOf_le (n := s.size) (by omega)
  rw [List.length_append, uintB_length, strB_length]
  omega
theorem var_u64 {v : GVar} (g : GoodVar v) : U64 v.cls ∧ U64 v.ty ∧ U64 (v.first - (rangeOf v.ty).1) := by
  obtain ⟨⟨_, _⟩, ⟨_, _⟩, ⟨_, _⟩, ⟨_, _⟩⟩ := g
  have := range_bound v.ty
  refine ⟨⟨by omega, by omega⟩, ⟨by omega, by omega⟩, ⟨by omega, by omega⟩⟩
theorem varB_len {v : GVar} (g : GoodVar v) : (varB v).length ≤ 80 := by
  obtain ⟨h1, h2, h3⟩ := var_u64 g
  have a1 := uB_len _ h1
  have a2 := uB_len _ h2
  have a3 := uB_len _ h3
  have a4 := str_len v.name g.name.2
  simp only [varB, List.length_append] at *
  omega
theorem headB_len (c : GCode) (h : c.name.size ≤ 40) (h2 : c.vars.length ≤ 220) : (headB c).length ≤ 60 := by
  have a1 := str_len c.name h
  have a2 := uB_len c.vars.length ⟨by omega, by omega⟩
  simp only [headB, List.length_append] at *
  omega
theorem ins_u64 {i : GIns} (g : GoodIns i) : U64 i.op ∧ U64 i.t ∧ U64 i.a ∧ U64 (zig i.n) := by
  obtain ⟨⟨_, _⟩, ⟨_, _⟩, ⟨_, _⟩, ⟨_, _⟩⟩ := g
  refine ⟨⟨by omega, by omega⟩, ⟨by omega, by omega⟩, ⟨by omega, by omega⟩, ?_⟩
  unfold zig
  split <;> exact ⟨by omega, by omega⟩
theorem insB_len {i : GIns} (g : GoodIns i) : (insB i).length ≤ 40 := by
  obtain ⟨h1, h2, h3, h4⟩ := ins_u64 g
  have a1 := uB_len _ h1
  have a2 := uB_len _ h2
  have a3 := uB_len _ h3
  have a4 := uB_len _ h4
  simp only [insB, List.length_append] at *
  omega
set_option maxHeartbeats 2000000 in
set_option maxRecDepth 100000 in
theorem bytes_any (c : GCode) (hw : c.Wf) (hn : (c.ins.length : Int) < 9223372036854775807) (vs bs is : Value) (w : World) (h : CodeRd w c vs bs is) (hr : rightB c = true) :
    Calls Try.prog 28 #[.agg #[.string c.name, vs, bs, is]] w (BytesPost c w) := by
  obtain ⟨A1, c1, rfl⟩ : ∃ A c', vs = .slice A c.vars.length c' := by obtain ⟨_, A, c', h, _⟩ := h.vars; exact ⟨A, c', h⟩
  obtain ⟨A2, c2, rfl⟩ : ∃ A c', bs = .slice A c.blocks.length c' := by obtain ⟨_, A, c', h, _⟩ := h.blocks; exact ⟨A, c', h⟩
  obtain ⟨A3, c3, rfl⟩ : ∃ A c', is = .slice A c.ins.length c' := by obtain ⟨_, A, c', h, _⟩ := h.ins; exact ⟨A, c', h⟩
  have m1 := h.vars.1
  have m2 := h.blocks.1
  have m3 := h.ins.1
  have H := Fact.mk h
  have HR := Fact.mk hr
  clear h hr
  go_enter Try.func28, Try.ntmps28
  go_wp2_with fail
  obtain ⟨b1, b2, b3⟩ := one_block w (.cells #[.string c.name, .slice A1 c.vars.length c1, .slice A2 c.blocks.length c2, .slice A3 c.ins.length c3] 32)
  obtain ⟨w0, hW⟩ : ∃ w0, w0 = w.alloc (.cells #[.string c.name, .slice A1 c.vars.length c1, .slice A2 c.blocks.length c2, .slice A3 c.ins.length c3] 32) := ⟨_, rfl⟩
  rw [← hW] at b1 b2 b3 ⊢
  clear hW
  have h0 := H.out.below b1
  refine (right_any c hw hn _ _ _ w0 h0).mono ?_
  rintro e w1 ⟨rfl, hb1⟩
  rw [HR.out]
  have k0 : w1.cell? ⟨w.heap.size, 0, none⟩ = some (.string c.name) := cell_below hb1 _ _ (by rw [cell_of_row _ _ 0 _ _ _ b2]; rfl)
  obtain ⟨⟨gn1, gn2⟩, gv, gb, gi1, gi2, gV, gB, gI⟩ := right_parts HR.out
  have GV := Fact.mk gV
  have GB := Fact.mk gB
  have GI := Fact.mk gI
  clear gV gB gI
  have hnm : c.name.size ≤ 9223372036854775807 := by omega
  have hBOX : CodeBox w0 c (.slice A1 c.vars.length c1) (.slice A2 c.blocks.length c2) (.slice A3 c.ins.length c3) w.heap.size :=
    ⟨by rw [cell_of_row _ _ 0 _ _ _ b2]; rfl, by rw [cell_of_row _ _ 1 _ _ _ b2]; rfl, by rw [cell_of_row _ _ 2 _ _ _ b2]; rfl, by rw [cell_of_row _ _ 3 _ _ _ b2]; rfl⟩
  have BX := Fact.mk hBOX
  have BE := Fact.mk b1
  have H0 := Fact.mk h0
  have HB1 := Fact.mk hb1
  clear hBOX b1 b2 h0 hb1 H
  go_wp2_with (refine wpList_conv rfl _ _ _ 5 rfl Try.underlying9 Try.underlying62 Try.underlying5 c.name rfl hnm ?_; intro cc w2 hcc hb2 hrd2; have HRD2 := Fact.mk hrd2; have HB2 := Fact.mk hb2; clear hrd2 hb2)
  refine (blob_any (w.heap.size + 1) _ [] _ (strB c.name) w2 (Own.nil _ _ _ _ _) HRD2.out (by simp [Value.ownBlock]) (by have := HB1.out.size; have := HB2.out.size; omega) (by rw [strB_length]; simp; omega)).mono ?_
  rintro e w3 ⟨v3, rfl, ho3, hr3⟩
  obtain ⟨A5, n5, c5, rfl⟩ := ho3.slice
  have hb3 : Below w2.heap.size w2 w3 := ⟨hr3.g.os, hr3.g.tape, hr3.g.output, hr3.g.size, fun k hk => hr3.g.block k hk (by simp [Value.ownBlock])⟩
  have hb03 : Below w0.heap.size w0 w3 := HB1.out.trans ((HB2.out.mono HB1.out.size).trans (hb3.mono (Nat.le_trans HB1.out.size HB2.out.size)))
  obtain ⟨e1, e2, e3⟩ := one_block w3 (.cells #[.slice A5 n5 c5] 62)
  have hB4 : BSt w0 w0.heap.size w3.heap.size ([] ++ uintB (strB c.name).length ++ strB c.name) (w3.alloc (.cells #[.slice A5 n5 c5] 62)) :=
    ⟨hb03.alloc hb03.size _, ⟨_, e2, by rw [b3]; exact ho3.below e1⟩, Nat.le_trans hb03.size e1.size, hb03.size⟩
  have f1 := cell_below (hb03.trans (e1.mono hb03.size)) _ _ BX.out.k1
  have HB4 := Fact.mk hB4
  clear hB4 hb03 hb3 e1 e2 e3 ho3 hr3 hcc k0
  go_wp2_with fail
  obtain ⟨W4, hW4⟩ : ∃ W4, W4 = w3.alloc (.cells #[.slice A5 n5 c5] 62) := ⟨_, rfl⟩
  have hs4 : W4.heap.size = w3.heap.size + 1 := by rw [hW4]; simp
  have hB4 := HB4.out
  rw [← hW4] at hB4 ⊢
  rw [← hs4]
  clear hW4 hs4 HB4 f1 HRD2 HB2
  generalize w3.heap.size = sb at *
  have hx0 : ([] ++ uintB (strB c.name).length ++ strB c.name).length ≤ 50 := str_len _ gn2
  refine (put1 w0 _ sb _ W4 hB4 _ ⟨by omega, by omega⟩ (by omega)).mono ?_
  rintro e w5 ⟨rfl, hB5, -⟩
  have HB5 := Fact.mk hB5
  have f1 := cell_below (hB5.bel) _ _ BX.out.k1
  clear hB4 hB5 hx0
  go_wp2_with fail
  go_loopw [32] (fun i wr => ∃ k : Nat, k ≤ c.vars.length ∧ i = .int .i64 k ∧ Fact (BSt w0 w0.heap.size sb (headB c ++ (c.vars.take k).flatMap varB) wr)) (fun i _ => c.vars.length - (intOf i).toNat)
  case atStart => exact ⟨0, Nat.zero_le _, rfl, ⟨by simpa [headB] using HB5.out⟩⟩
  case round =>
    clear f1 HB5
    obtain ⟨k, hk, rfl, hBk⟩ := hrel
    by_cases hlt : k < c.vars.length
    · have g := (GV.out k hlt).1
      have hu := var_u64 g
      have hlen : (headB c ++ (c.vars.take k).flatMap varB).length ≤ 20000 := by
        have e1 := headB_len c gn2 (by omega)
        have e2 := flatMap_le varB 80 (c.vars.take k) (fun x hx => by
          obtain ⟨i, hi, rfl⟩ := List.getElem_of_mem (List.mem_of_mem_take hx)
          exact varB_len (GV.out i hi).1)
        rw [List.length_take] at e2
        rw [List.length_append]
        omega
      obtain ⟨_, _, _, hv, _, _, hcell⟩ := (H0.out.below hBk.out.bel).vars
      obtain ⟨b, off, rfl, hcl⟩ := hcell (by omega)
      simp only [Value.slice.injEq, true_and] at hv
      obtain ⟨rfl, rfl⟩ := hv
      have q0 : wr.cell? ⟨b, off + k * 4, none⟩ = some (.string c.vars[k].name) := hcl k hlt 0 _ rfl
      have q1 : wr.cell? ⟨b, off + k * 4 + 1, none⟩ = some (.int .u8 c.vars[k].cls) := hcl k hlt 1 _ rfl
      have q2 : wr.cell? ⟨b, off + k * 4 + 2, none⟩ = some (.int .u8 c.vars[k].ty) := hcl k hlt 2 _ rfl
      have q3 : wr.cell? ⟨b, off + k * 4 + 3, none⟩ = some (.int .i64 c.vars[k].first) := hcl k hlt 3 _ rfl
      have hsn := flatMap_take varB c.vars k hlt
      have HSN := Fact.mk hsn
      clear hcl hcell hsn
      generalize c.vars[k] = y at g hu q0 q1 q2 q3 HSN
      obtain ⟨v6, h61, h62⟩ := hBk.out.out
      obtain ⟨A6, n6, c6, rfl⟩ := h62.slice
      obtain ⟨a1, a2, a3⟩ := one_block wr (.cells #[.string y.name, .int .u8 y.cls, .int .u8 y.ty, .int .i64 y.first] 41)
      have hsl : sb < wr.heap.size := (Array.getElem?_eq_some_iff.1 h61).1
      have d1 := cell_below a1 _ _ (cell_of_block h61)
      have HU := Fact.mk hu
      have H61 := Fact.mk h61
      have H62 := Fact.mk h62
      have A1' := Fact.mk a1
      have A2' := Fact.mk a2
      obtain ⟨gn1', gn2'⟩ := g.name
      obtain ⟨gc1, gc2⟩ := g.cls
      obtain ⟨gt1, gt2⟩ := g.ty
      obtain ⟨gf1, gf2⟩ := g.first
      obtain ⟨rb1, rb2, rb3, rb4⟩ := range_bound y.ty
      have hnm' : y.name.size ≤ 9223372036854775807 := by omega
      clear hu h61 h62 a1 a2 g
      go_wp2_with (first | (go_at_call 14; refine (range_any _ _).mono ?_; rintro e w' ⟨rfl, rfl⟩) | (refine wpList_conv rfl _ _ _ 5 rfl Try.underlying9 Try.underlying62 Try.underlying5 y.name rfl hnm' ?_; intro cc' w2' hcc' hb2 hrd2; have HRD2 := Fact.mk hrd2; have HB2 := Fact.mk hb2; clear hrd2 hb2))
      have b2 := HB2.out
      have hw2 : Below wr.heap.size wr w2' := A1'.out.trans (b2.mono A1'.out.size)
      have h61' : w2'.heap[sb]? = some (.cells #[.slice A6 n6 c6] 62 (0, 0)) := by rw [hw2.block sb hsl]; exact H61.out
      have hbx : w2'.heap[wr.heap.size]? = some (.cells #[.string y.name, .int .u8 y.cls, .int .u8 y.ty, .int .i64 y.first] 41 (0, 0)) := by
        rw [b2.block _ (by rw [a3]; omega)]; exact A2'.out
      have h62' := H62.out.below hw2
      have hrd := HRD2.out
      rw [a3] at hrd
      refine (blob_any w0.heap.size _ _ _ (strB y.name) w2' h62' hrd ?_ (Nat.le_trans hBk.out.lb hw2.size) ?_).mono ?_
      · intro g hg e
        have : wr.heap.size + 1 = g := by simpa [Value.ownBlock] using hg
        have := own_lt H62.out e
        omega
      · rw [strB_length]; omega
      rintro e w3' ⟨v7, rfl, ho3, hr3⟩
      obtain ⟨A7, n7, c7, rfl⟩ := ho3.slice
      have hG := hr3.grow h62'
      have h63 := hG.other h61' (by decide)
      have hbx3 := hG.other hbx (by decide)
      have hne : sb ≠ wr.heap.size := by omega
      have s1 := cell_of_block h63
      have s2 : w3'.frozen? ⟨sb, 0, none⟩ = false := frozen_of_row w3' sb 0 _ _ h63
      have hbx4 : (w3'.setCell ⟨sb, 0, none⟩ (.slice A7 n7 c7)).heap[wr.heap.size]? = some (.cells #[.string y.name, .int .u8 y.cls, .int .u8 y.ty, .int .i64 y.first] 41 (0, 0)) := by
        rw [Below.heap_setCell _ _ _ _ (fun e => hne e.symm)]; exact hbx3
      have z1 : (w3'.setCell ⟨sb, 0, none⟩ (.slice A7 n7 c7)).cell? ⟨wr.heap.size, 1, none⟩ = some (.int .u8 y.cls) := by rw [cell_of_row _ _ 1 _ _ _ hbx4]; rfl
      have z2 : (w3'.setCell ⟨sb, 0, none⟩ (.slice A7 n7 c7)).cell? ⟨wr.heap.size, 2, none⟩ = some (.int .u8 y.ty) := by rw [cell_of_row _ _ 2 _ _ _ hbx4]; rfl
      have z3 : (w3'.setCell ⟨sb, 0, none⟩ (.slice A7 n7 c7)).cell? ⟨wr.heap.size, 3, none⟩ = some (.int .i64 y.first) := by rw [cell_of_row _ _ 3 _ _ _ hbx4]; rfl
      have hPF : PutFrame w0.heap.size sb wr (w3'.setCell ⟨sb, 0, none⟩ (.slice A7 n7 c7)) :=
        (PutFrame.of_grow (Grow.of_below hw2)).trans ((PutFrame.of_grow hG).trans (PutFrame.set _ _ _ _))
      have hB8 : BSt w0 w0.heap.size sb (headB c ++ (c.vars.take k).flatMap varB ++ uintB (strB y.name).length ++ strB y.name) (w3'.setCell ⟨sb, 0, none⟩ (.slice A7 n7 c7)) :=
        ⟨hPF.below hBk.out.bel hBk.out.lb hBk.out.sbb, ⟨_, set_block h63, ho3.set h63 (by decide) 0 _⟩, Nat.le_trans hBk.out.lb hPF.size, hBk.out.sbb⟩
      have HB8 := Fact.mk hB8
      have hlen8 : (headB c ++ (c.vars.take k).flatMap varB ++ uintB (strB y.name).length ++ strB y.name).length ≤ 21000 := by
        have := str_len y.name gn2'
        simp only [List.length_append] at *
        omega
      clear hrd hB8 hPF hbx4 hbx3 h63 hG ho3 hr3 h62' hbx h61' hw2 b2 q0 q1 q2 q3 d1 HRD2 HB2 H61 H62 A1' A2' a3
      go_wp2_with fail
      have hz : (w3'.setCell ⟨sb, 0, none⟩ (.slice A7 n7 c7)).heap.size = w3'.heap.size := by simp [World.setCell]
      have hp := put3 w0 _ sb _ (w3'.setCell ⟨sb, 0, none⟩ (.slice A7 n7 c7)) HB8.out _ _ _ HU.out.1 HU.out.2.1 HU.out.2.2 (by omega)
      rw [hz] at hp
      refine hp.mono ?_
      rintro e w7 ⟨rfl, hB9, -⟩
      have HB9 := Fact.mk hB9
      clear hB9
      go_wp2_with fail
      go_roundw
      case rel => exact ⟨k + 1, by omega, by go_num, ⟨by rw [HSN.out]; simpa [varB] using HB9.out⟩⟩
      case measure => simp [intOf]; omega
    · obtain rfl : k = c.vars.length := by omega
      rw [List.take_length] at hBk
      have g2 := cell_below (hBk.out.bel) _ _ BX.out.k2
      have hlen : (headB c ++ c.vars.flatMap varB).length ≤ 20000 := by
        have e1 := headB_len c gn2 (by omega)
        have e2 := flatMap_le varB 80 c.vars (fun x hx => by
          obtain ⟨i, hi, rfl⟩ := List.getElem_of_mem hx
          exact varB_len (GV.out i hi).1)
        rw [List.length_append]
        omega
      go_wp2_with fail
      refine (put1 w0 _ sb _ _ hBk.out _ ⟨by omega, by omega⟩ (by omega)).mono ?_
      rintro e w8 ⟨rfl, hB10, -⟩
      have HB10 := Fact.mk hB10
      have g2' := cell_below (hB10.bel) _ _ BX.out.k2
      clear hB10 g2
      clear hBk
      go_wp2_with fail
      go_loopw [72] (fun i wr => ∃ k : Nat, k ≤ c.blocks.length ∧ i = .int .i64 k ∧ Fact (BSt w0 w0.heap.size sb (headB c ++ c.vars.flatMap varB ++ uB c.blocks.length ++ (c.blocks.take k).flatMap uB) wr)) (fun i _ => c.blocks.length - (intOf i).toNat)
      case atStart => exact ⟨0, Nat.zero_le _, rfl, ⟨by simpa using HB10.out⟩⟩
      case round =>
        clear g2' HB10
        obtain ⟨k, hk, rfl, hBk⟩ := hrel
        by_cases hlt : k < c.blocks.length
        · obtain ⟨gb1, gb2⟩ := GB.out k hlt
          have hlen2 : (headB c ++ c.vars.flatMap varB ++ uB c.blocks.length ++ (c.blocks.take k).flatMap uB).length ≤ 30000 := by
            have e1 := flatMap_le uB 10 (c.blocks.take k) (fun x hx => by
              obtain ⟨i, hi, rfl⟩ := List.getElem_of_mem (List.mem_of_mem_take hx)
              obtain ⟨x1, x2⟩ := GB.out i hi
              exact uB_len _ ⟨by omega, by omega⟩)
            have e2 := uB_len c.blocks.length ⟨by omega, by omega⟩
            rw [List.length_take] at e1
            rw [List.length_append, List.length_append]
            omega
          obtain ⟨_, _, _, hv, _, _, hcell⟩ := (H0.out.below hBk.out.bel).blocks
          obtain ⟨b, off, rfl, hcl⟩ := hcell (by omega)
          simp only [Value.slice.injEq, true_and] at hv
          obtain ⟨rfl, rfl⟩ := hv
          have q0 : wr.cell? ⟨b, off + k, none⟩ = some (.int .u8 c.blocks[k]) := by
            have := hcl k hlt 0 _ rfl
            rwa [show off + k * 1 + 0 = off + k from by omega] at this
          have hsn := flatMap_take uB c.blocks k hlt
          have HSN := Fact.mk hsn
          clear hcl hcell hsn
          generalize c.blocks[k] = y at gb1 gb2 q0 HSN
          go_wp2_with fail
          refine (put1 w0 _ sb _ _ hBk.out y ⟨by omega, by omega⟩ (by omega)).mono ?_
          rintro e w9 ⟨rfl, hB11, -⟩
          have HB11 := Fact.mk hB11
          clear hB11 q0
          go_wp2_with fail
          go_roundw
          case rel => exact ⟨k + 1, by omega, by go_num, ⟨by rw [HSN.out]; simpa using HB11.out⟩⟩
          case measure => simp [intOf]; omega
        · obtain rfl : k = c.blocks.length := by omega
          rw [List.take_length] at hBk
          have g3 := cell_below (hBk.out.bel) _ _ BX.out.k3
          have hlen2 : (headB c ++ c.vars.flatMap varB ++ uB c.blocks.length ++ c.blocks.flatMap uB).length ≤ 30000 := by
            have e1 := flatMap_le uB 10 c.blocks (fun x hx => by
              obtain ⟨i, hi, rfl⟩ := List.getElem_of_mem hx
              obtain ⟨x1, x2⟩ := GB.out i hi
              exact uB_len _ ⟨by omega, by omega⟩)
            have e2 := uB_len c.blocks.length ⟨by omega, by omega⟩
            rw [List.length_append, List.length_append]
            omega
          go_wp2_with fail
          refine (put1 w0 _ sb _ _ hBk.out _ ⟨by omega, by omega⟩ (by omega)).mono ?_
          rintro e w10 ⟨rfl, hB12, -⟩
          have HB12 := Fact.mk hB12
          have g3' := cell_below (hB12.bel) _ _ BX.out.k3
          clear hB12 g3 hBk
          go_wp2_with fail
          go_loopw [92] (fun i wr => ∃ k : Nat, k ≤ c.ins.length ∧ i = .int .i64 k ∧ Fact (BSt w0 w0.heap.size sb (headB c ++ c.vars.flatMap varB ++ uB c.blocks.length ++ c.blocks.flatMap uB ++ uB c.ins.length ++ (c.ins.take k).flatMap insB) wr)) (fun i _ => c.ins.length - (intOf i).toNat)
          case atStart => exact ⟨0, Nat.zero_le _, rfl, ⟨by simpa using HB12.out⟩⟩
          case round =>
            clear g3' HB12
            obtain ⟨k, hk, rfl, hBk⟩ := hrel
            by_cases hlt : k < c.ins.length
            · have g := good_ins (GI.out k hlt) gv gb gi2
              have hu := ins_u64 g
              have hlen3 : (headB c ++ c.vars.flatMap varB ++ uB c.blocks.length ++ c.blocks.flatMap uB ++ uB c.ins.length ++ (c.ins.take k).flatMap insB).length ≤ 150000 := by
                have e1 := flatMap_le insB 40 (c.ins.take k) (fun x hx => by
                  obtain ⟨i, hi, rfl⟩ := List.getElem_of_mem (List.mem_of_mem_take hx)
                  exact insB_len (good_ins (GI.out i hi) gv gb gi2))
                have e2 := uB_len c.ins.length ⟨by omega, by omega⟩
                rw [List.length_take] at e1
                rw [List.length_append, List.length_append]
                omega
              obtain ⟨_, _, _, hv, _, _, hcell⟩ := (H0.out.below hBk.out.bel).ins
              obtain ⟨b, off, rfl, hcl⟩ := hcell (by omega)
              simp only [Value.slice.injEq, true_and] at hv
              obtain ⟨rfl, rfl⟩ := hv
              have q0 : wr.cell? ⟨b, off + k * 4, none⟩ = some (.int .u8 c.ins[k].op) := hcl k hlt 0 _ rfl
              have q1 : wr.cell? ⟨b, off + k * 4 + 1, none⟩ = some (.int .u8 c.ins[k].t) := hcl k hlt 1 _ rfl
              have q2 : wr.cell? ⟨b, off + k * 4 + 2, none⟩ = some (.int .i64 c.ins[k].a) := hcl k hlt 2 _ rfl
              have q3 : wr.cell? ⟨b, off + k * 4 + 3, none⟩ = some (.int .i64 c.ins[k].n) := hcl k hlt 3 _ rfl
              have hsn := flatMap_take insB c.ins k hlt
              have HSN := Fact.mk hsn
              clear hcl hcell hsn
              generalize c.ins[k] = y at g hu q0 q1 q2 q3 HSN
              obtain ⟨v6, h61, h62⟩ := hBk.out.out
              obtain ⟨a1, a2, a3⟩ := one_block wr (.cells #[.int .u8 y.op, .int .u8 y.t, .int .i64 y.a, .int .i64 y.n] 38)
              have hB13 := hBk.out.mono a1
              have HB13 := Fact.mk hB13
              have HU := Fact.mk hu
              obtain ⟨go1, go2⟩ := g.op
              obtain ⟨gt1, gt2⟩ := g.t
              obtain ⟨ga1, ga2⟩ := g.a
              obtain ⟨gn1', gn2'⟩ := g.n
              have z0 : (wr.alloc (.cells #[.int .u8 y.op, .int .u8 y.t, .int .i64 y.a, .int .i64 y.n] 38)).cell? ⟨wr.heap.size, 0, none⟩ = some (.int .u8 y.op) := by rw [cell_of_row _ _ 0 _ _ _ a2]; rfl
              have z1 : (wr.alloc (.cells #[.int .u8 y.op, .int .u8 y.t, .int .i64 y.a, .int .i64 y.n] 38)).cell? ⟨wr.heap.size, 1, none⟩ = some (.int .u8 y.t) := by rw [cell_of_row _ _ 1 _ _ _ a2]; rfl
              have z2 : (wr.alloc (.cells #[.int .u8 y.op, .int .u8 y.t, .int .i64 y.a, .int .i64 y.n] 38)).cell? ⟨wr.heap.size, 2, none⟩ = some (.int .i64 y.a) := by rw [cell_of_row _ _ 2 _ _ _ a2]; rfl
              have z3 : (wr.alloc (.cells #[.int .u8 y.op, .int .u8 y.t, .int .i64 y.a, .int .i64 y.n] 38)).cell? ⟨wr.heap.size, 3, none⟩ = some (.int .i64 y.n) := by rw [cell_of_row _ _ 3 _ _ _ a2]; rfl
              clear hB13 hu h61 h62 a1 a2 g
              go_wp2_with fail
              rw [zig_bits _ gn1' gn2']
              have hp := put4 w0 _ sb _ _ HB13.out _ _ _ _ HU.out.1 HU.out.2.1 HU.out.2.2.1 HU.out.2.2.2 (by omega)
              rw [a3] at hp
              refine hp.mono ?_
              rintro e w11 ⟨rfl, hB14, -⟩
              have HB14 := Fact.mk hB14
              clear hB14 hp q0 q1 q2 q3 z0 z1 z2 z3 HB13
              go_wp2_with fail
              go_roundw
              case rel => exact ⟨k + 1, by omega, by go_num, ⟨by rw [HSN.out]; simpa [insB] using HB14.out⟩⟩
              case measure => simp [intOf]; omega
            · obtain rfl : k = c.ins.length := by omega
              rw [List.take_length] at hBk
              obtain ⟨v6, h61, h62⟩ := hBk.out.out
              obtain ⟨A6, n6, c6, rfl⟩ := h62.slice
              have H62 := Fact.mk h62
              have t4 := cell_of_block h61
              clear h61 h62
              go_wp2_with fail
              go_ret2
              exact ⟨_, rfl, H62.out.lower BE.out.size, BE.out.trans (hBk.out.bel.mono BE.out.size)⟩
end Go.Proofs.Ythiapebodpkamaa

