/- Contract of reader.ins. -/
import Derived.Test.YthiapebodpkamaaRdv
namespace Go.Proofs.Ythiapebodpkamaa
open Go.RowKit
def vIns (i : GIns) : Value := .agg #[.int .u8 i.op, .int .u8 i.t, .int .i64 i.a, .int .i64 i.n]
def InsPost (w : World) (r : Nat) (vb : Value) (l : List Int) (p : Option (GIns × List Int)) (e : Ending) (w' : World) : Prop :=
  (∃ v : GIns, e = .returned (vIns v) ∧ v.Wf ∧ ∀ x rest, p = some (x, rest) → v = x) ∧ RdAt w' r vb l (p.map (·.2)) ∧ w.grownBy w' (some r)
theorem ins_steps (o : Option (List Int)) : ∃ (P1 P2 P3 P4 : Option (Nat × List Int)), P1 = o.bind (numP 255) ∧ P2 = (P1.map (·.2)).bind (numP 255) ∧ P3 = (P2.map (·.2)).bind (numP 2000) ∧ P4 = (P3.map (·.2)).bind (numP 17179869184) ∧
    (o.bind insP).map (·.2) = P4.map (·.2) ∧ (∀ x rest, o.bind insP = some (x, rest) → (⟨(((P1.map (·.1)).getD 0 : Nat) : Int), (((P2.map (·.1)).getD 0 : Nat) : Int), (((P3.map (·.1)).getD 0 : Nat) : Int), unzig ((P4.map (·.1)).getD 0)⟩ : GIns) = x) := by
  refine ⟨_, _, _, _, rfl, rfl, rfl, rfl, ?_, ?_⟩
  · cases o with
    | none => rfl
    | some l =>
      simp only [Option.bind_some, insP]
      cases h1 : numP 255 l with
      | none => simp
      | some p =>
        cases h2 : numP 255 p.2 with
        | none => simp [h2]
        | some q =>
          cases h3 : numP 2000 q.2 with
          | none => simp [h2, h3]
          | some t =>
            cases h4 : numP 17179869184 t.2 with
            | none => simp [h2, h3, h4]
            | some d => simp [h2, h3, h4]
  · intro x rest h
    cases o with
    | none => cases h
    | some l =>
      simp only [Option.bind_some, insP] at h ⊢
      cases h1 : numP 255 l with
      | none => simp [h1] at h
      | some p =>
        cases h2 : numP 255 p.2 with
        | none => simp [h1, h2] at h
        | some q =>
          cases h3 : numP 2000 q.2 with
          | none => simp [h1, h2, h3] at h
          | some t =>
            cases h4 : numP 17179869184 t.2 with
            | none => simp [h1, h2, h3, h4] at h
            | some d =>
              simp [h1, h2, h3, h4] at h
              simp [h2, h3, h4, h.1]
theorem Try.sizeIns : (Try.prog.info? 38).map (·.size) = some 4 := by kernel_rfl
theorem wrap_small {x : Int} (h1 : -2 ≤ x) (h2 : x ≤ 2) : wrap64 x = x := by
  unfold wrap64
  omega
theorem unz_bits {n : Nat} (h : n ≤ 17179869184) : bits .xor .i64 ((n : Int) / 2) (wrap64 (-wrap64 (bits .and .u64 (n : Int) 1))) = unzig n := by
  have e1 : bits .and .u64 (n : Int) 1 = ((n % 2 : Nat) : Int) := by
    show IntKind.u64.wrap ((BitVec.ofInt 64 (n : Int) &&& BitVec.ofInt 64 1).toNat : Int) = _
    rw [BitVec.toNat_and, BitVec.toNat_ofInt, show ((n : Int) % ((2 ^ 64 : Nat) : Int)).toNat = n by omega, show (BitVec.ofInt 64 1).toNat = 1 from rfl, Nat.and_one_is_mod, IntKind.wrap_u64]
    omega
  rw [e1, wrap_small (x := ((n % 2 : Nat) : Int)) (by omega) (by omega), wrap_small (x := -((n % 2 : Nat) : Int)) (by omega) (by omega)]
  show IntKind.i64.wrap ((BitVec.ofInt 64 ((n : Int) / 2) ^^^ BitVec.ofInt 64 (-((n % 2 : Nat) : Int))).toNat : Int) = _
  unfold unzig
  by_cases h1 : n % 2 = 1
  · rw [if_pos h1, h1, show BitVec.ofInt 64 (-((1 : Nat) : Int)) = BitVec.allOnes 64 from by decide, BitVec.xor_allOnes, BitVec.toNat_not, BitVec.toNat_ofInt, IntKind.wrap_i64]
    omega
  · rw [if_neg h1, show n % 2 = 0 by omega, show BitVec.ofInt 64 (-((0 : Nat) : Int)) = 0#64 from rfl, BitVec.xor_zero, BitVec.toNat_ofInt, IntKind.wrap_i64]
    omega
set_option maxHeartbeats 4000000 in
set_option maxRecDepth 100000 in
theorem rdIns_any (w : World) (r : Nat) (vb : Value) (l : List Int) (hb : Bys l) (o : Option (List Int)) (h : RdAt w r vb l o) :
    Calls Try.prog 61 #[.pointer (some ⟨r, 0, none⟩)] w (InsPost w r vb l (o.bind insP)) := by
  obtain ⟨P1, P2, P3, P4, e1, e2, e3, e4, eo, ex⟩ := ins_steps o
  have EX := Fact.mk ex
  have L1 := num_le e1
  have L2 := num_le e2
  have L3 := num_le e3
  have L4 := num_le e4
  have T1 := fun (W : World) (hW : RdAt W r vb l o) => number_any W r vb l hb o hW 255
  have T2 := fun (W : World) (hW : RdAt W r vb l (P1.map (·.2))) => number_any W r vb l hb _ hW 255
  have T3 := fun (W : World) (hW : RdAt W r vb l (P2.map (·.2))) => number_any W r vb l hb _ hW 2000
  have T4 := fun (W : World) (hW : RdAt W r vb l (P3.map (·.2))) => number_any W r vb l hb _ hW 17179869184
  rw [← e1] at T1
  rw [← e2] at T2
  rw [← e3] at T3
  rw [← e4] at T4
  obtain ⟨op, hop⟩ : ∃ nm, (P1.map (·.1)).getD 0 = nm := ⟨_, rfl⟩
  obtain ⟨t, ht⟩ : ∃ c, (P2.map (·.1)).getD 0 = c := ⟨_, rfl⟩
  obtain ⟨a, ha⟩ : ∃ t, (P3.map (·.1)).getD 0 = t := ⟨_, rfl⟩
  obtain ⟨n, hn⟩ : ∃ d, (P4.map (·.1)).getD 0 = d := ⟨_, rfl⟩
  unfold NumPost at T1 T2 T3 T4
  rw [hop] at T1 L1 EX
  rw [ht] at T2 L2 EX
  rw [ha] at T3 L3 EX
  rw [hn] at T4 L4 EX
  have e255 : ((255 : Nat) : Int) = 255 := rfl
  have e2000 : ((2000 : Nat) : Int) = 2000 := rfl
  have e34 : ((17179869184 : Nat) : Int) = 17179869184 := rfl
  rw [e255] at T1 T2
  rw [e2000] at T3
  rw [e34] at T4
  have K1 := Fact.mk T1
  have K2 := Fact.mk T2
  have K3 := Fact.mk T3
  have K4 := Fact.mk T4
  have H := Fact.mk h
  have EO := Fact.mk eo
  have UB := Fact.mk (unz_bits L4)
  have lt := h.lt
  clear e1 e2 e3 e4 eo ex T1 T2 T3 T4 hop ht ha hn h e255 e2000 e34
  go_enter Try.func61, Try.ntmps61
  go_wp2_with fail
  refine (K1.out _ (H.out.below (one_block w _).1)).mono ?_
  rintro e W2 ⟨rfl, h2, g2⟩
  have R0 := Fact.mk (grown_row g2 (heap_alloc_new w _) (by omega))
  have G2 := Fact.mk (grown_trans (World.grownBy_alloc w _ _) g2)
  have H2 := Fact.mk h2
  clear h2 g2 K1
  have lt2 := G2.out.size
  have lw2 : w.heap.size < W2.heap.size := (Array.getElem?_eq_some_iff.1 R0.out).1
  go_wp2_with fail
  refine (K2.out _ (H2.out.below (one_block W2 _).1)).mono ?_
  rintro e W3 ⟨rfl, h3, g3⟩
  have R1 := Fact.mk (grown_row g3 (heap_alloc_new W2 _) (by omega))
  have R0 := Fact.mk (grown_row g3 (((one_block W2 _).1.block w.heap.size lw2).trans R0.out) (by omega))
  have G3 := Fact.mk (grown_trans (grown_trans G2.out (World.grownBy_alloc W2 _ _)) g3)
  have H3 := Fact.mk h3
  clear h3 g3 K2 G2 H2
  obtain ⟨⟨-, c1, -, -⟩, -, f1, -, -⟩ := rdv_row4 R1.out
  go_upto_region 3 with (fail)
  have B3 := Fact.mk ((Below.refl w.heap.size W3).setCell (p := ⟨W2.heap.size, 1, none⟩) lt2 (.int .u8 (t : Int)))
  have R1' := Fact.mk (set4_1 (u := .int .u8 (t : Int)) R1.out)
  have R0' := Fact.mk (row_other (k := W2.heap.size) (j := 1) (.int .u8 (t : Int)) R0.out (by omega))
  have H3' := Fact.mk (H.out.low H3.out B3.out)
  have G3' := Fact.mk (grown_low G3.out B3.out)
  clear c1 f1 R1 R0 H3 G3 B3
  generalize W3.setCell ⟨W2.heap.size, 1, none⟩ (.int .u8 (t : Int)) = W4 at R1' R0' H3' G3' ⊢
  go_wp2_with fail
  refine (K3.out _ H3'.out).mono ?_
  rintro e W5 ⟨rfl, h5, g5⟩
  have R1 := Fact.mk (grown_row g5 R1'.out (by omega))
  have R0 := Fact.mk (grown_row g5 R0'.out (by omega))
  have G5 := Fact.mk (grown_trans G3'.out g5)
  have H5 := Fact.mk h5
  clear h5 g5 K3 G3' H3' R1' R0'
  obtain ⟨⟨-, -, c2, -⟩, -, -, f2, -⟩ := rdv_row4 R1.out
  go_upto_region 4 with (fail)
  have B5 := Fact.mk ((Below.refl w.heap.size W5).setCell (p := ⟨W2.heap.size, 2, none⟩) lt2 (.int .i64 (a : Int)))
  have R1' := Fact.mk (set4_2 (u := .int .i64 (a : Int)) R1.out)
  have R0' := Fact.mk (row_other (k := W2.heap.size) (j := 2) (.int .i64 (a : Int)) R0.out (by omega))
  have H5' := Fact.mk (H.out.low H5.out B5.out)
  have G5' := Fact.mk (grown_low G5.out B5.out)
  clear c2 f2 R1 R0 H5 G5 B5
  generalize W5.setCell ⟨W2.heap.size, 2, none⟩ (.int .i64 (a : Int)) = W6 at R1' R0' H5' G5' ⊢
  go_wp2_with fail
  refine (K4.out _ H5'.out).mono ?_
  rintro e W7 ⟨rfl, h7, g7⟩
  have R1 := Fact.mk (grown_row g7 R1'.out (by omega))
  have R0 := Fact.mk (grown_row g7 R0'.out (by omega))
  have G7 := Fact.mk (grown_trans G5'.out g7)
  have H7 := Fact.mk h7
  clear h7 g7 K4 G5' H5' R1' R0'
  obtain ⟨⟨-, -, -, c3⟩, -, -, -, f3⟩ := rdv_row4 R1.out
  go_upto_region 6 with (fail)
  rw [UB.out]
  obtain ⟨z, hz⟩ : ∃ z, unzig n = z := ⟨_, rfl⟩
  have hzb : -9223372036854775808 ≤ z ∧ z ≤ 9223372036854775807 := by rw [← hz]; unfold unzig; split <;> omega
  rw [hz] at EX ⊢
  have B7 := Fact.mk ((Below.refl w.heap.size W7).setCell (p := ⟨W2.heap.size, 3, none⟩) lt2 (.int .i64 z))
  have R1' := Fact.mk (set4_3 (u := .int .i64 z) R1.out)
  have R0' := Fact.mk (row_other (k := W2.heap.size) (j := 3) (.int .i64 z) R0.out (by omega))
  have H7' := Fact.mk (H.out.low H7.out B7.out)
  have G7' := Fact.mk (grown_low G7.out B7.out)
  clear c3 f3 R1 R0 H7 G7 B7 hz UB
  generalize W7.setCell ⟨W2.heap.size, 3, none⟩ (.int .i64 z) = W8 at R1' R0' H7' G7' ⊢
  obtain ⟨⟨a0, a1, a2, a3⟩, -⟩ := rdv_row4 R1'.out
  obtain ⟨⟨b0, b1, b2, b3⟩, f0, f1, f2, f3⟩ := rdv_row4 R0'.out
  have B8 := Fact.mk (((((Below.refl w.heap.size W8).setCell (p := ⟨w.heap.size, 0, none⟩) (Nat.le_refl _) (.int .u8 (op : Int))).setCell (p := ⟨w.heap.size, 1, none⟩) (Nat.le_refl _) (.int .u8 (t : Int))).setCell (p := ⟨w.heap.size, 2, none⟩) (Nat.le_refl _) (.int .i64 (a : Int))).setCell (p := ⟨w.heap.size, 3, none⟩) (Nat.le_refl _) (.int .i64 z))
  have RX := Fact.mk (store4 R0'.out (.int .u8 (op : Int)) (.int .u8 (t : Int)) (.int .i64 (a : Int)) (.int .i64 z))
  have HX := Fact.mk (H.out.low H7'.out B8.out)
  have GX := Fact.mk (grown_low G7'.out B8.out)
  clear R1' R0' H7' G7' B8
  go_wp2
  refine bodyPost_ret (res_cell1 Try.results61 _ _ w.heap.size rfl RX.out Try.underlying38 rfl Try.sizeIns) rfl ⟨⟨⟨(op : Int), (t : Int), (a : Int), z⟩, rfl, ⟨⟨by show (0 : Int) ≤ (op : Int); omega, by show (op : Int) ≤ 255; omega⟩, ⟨by show (0 : Int) ≤ (t : Int); omega, by show (t : Int) ≤ 255; omega⟩, ⟨by show _ ≤ (a : Int); omega, by show (a : Int) ≤ _; omega⟩, hzb⟩, EX.out⟩, ?_, GX.out⟩
  rw [EO.out]
  exact HX.out
end Go.Proofs.Ythiapebodpkamaa

