/- Contracts of reader.variable and reader.ins. -/
import Derived.Test.YthiapebodpkamaaRdr
import Derived.Laws.ResultCell
import Derived.Test.YthiapebodpkamaaReg
namespace Go.Proofs.Ythiapebodpkamaa
open Go.RowKit
theorem grown_row {w w' : World} {g i : Nat} {o : Obj} (h : w.grownBy w' (some g)) (hi : w.heap[i]? = some o) (hne : i ≠ g) : w'.heap[i]? = some o := by
  rw [h.block i (Array.getElem?_eq_some_iff.1 hi).1 (fun e => hne (by cases e; rfl))]; exact hi
theorem RdAt.lt {w : World} {r : Nat} {vb : Value} {l : List Int} {o : Option (List Int)} (h : RdAt w r vb l o) : r < w.heap.size := by
  obtain ⟨_, _, _, _, hr, _⟩ := h
  exact (Array.getElem?_eq_some_iff.1 hr).1
theorem RdAt.low {w W W' : World} {r : Nat} {vb : Value} {l : List Int} {o0 o : Option (List Int)} (h0 : RdAt w r vb l o0) (h : RdAt W r vb l o) (hb : Below w.heap.size W W') : RdAt W' r vb l o := by
  obtain ⟨⟨_, A, c, rfl, _, _, hc0⟩, _, _, _, hr0, _⟩ := h0
  obtain ⟨hv, at_, bad, ha, hr, hs⟩ := h
  refine ⟨?_, at_, bad, ha, (hb.block r (Array.getElem?_eq_some_iff.1 hr0).1).trans hr, hs⟩
  obtain ⟨g0, A', c', e, g2, g4, g3⟩ := hv
  cases e
  refine ⟨g0, _, _, rfl, g2, g4, fun hp => ?_⟩
  obtain ⟨b, off, rfl, hc⟩ := g3 hp
  obtain ⟨b2, off2, e2, hc2⟩ := hc0 hp
  cases e2
  exact ⟨b, off, rfl, fun j hj i u hu => (hb.cell (p := ⟨b, off + j * 1 + i, none⟩) (World.block_lt_of_cell? w _ (hc2 j hj i u hu))).trans (hc j hj i u hu)⟩
theorem grown_low {w W W' : World} {k : Option Nat} (h : w.grownBy W k) (hb : Below w.heap.size W W') : w.grownBy W' k :=
  ⟨hb.os.trans h.os, hb.tape.trans h.tape, hb.output.trans h.output, Nat.le_trans h.size hb.size, fun i hi hn => (hb.block i hi).trans (h.block i hi hn)⟩
theorem Try.sizeVar : (Try.prog.info? 41).map (·.size) = some 4 := by kernel_rfl
theorem res_cell1 {P : Program} {fn : Func} {p : Tmp} {ty : TypeId} (h : fn.results = #[.cell p ty]) (tmps : Array Value) (w : World) (g : Nat) {t : TypeId} {cs : Array Value} {fr : Nat × Nat} {d : TypeDesc}
    (hp : tmps.getD p undef = .pointer (some ⟨g, 0, none⟩)) (hg : w.heap[g]? = some (.cells cs t fr))
    (hu : P.underlying ty = some d) (hd : (match d with | .struct _ | .array _ _ => true | _ => false) = true) (hi : (P.info? ty).map (·.size) = some cs.size) :
    (results fn tmps).run P w = .ok (.agg cs) w := by
  have hp' : tmps[p]?.getD undef = .pointer (some ⟨g, 0, none⟩) := by rw [← Array.getD_eq_getD_getElem?]; exact hp
  simp [results, h, hp', asAddr, run_loadVar_row w g t ty cs fr d hg hu hd hi]
theorem rdv_row4 {w : World} {g : Nat} {a b c d : Value} {T : TypeId} (h : w.heap[g]? = some (.cells #[a, b, c, d] T (0, 0))) : (w.cell? ⟨g, 0, none⟩ = some a ∧ w.cell? ⟨g, 1, none⟩ = some b ∧ w.cell? ⟨g, 2, none⟩ = some c ∧ w.cell? ⟨g, 3, none⟩ = some d) ∧ (w.frozen? ⟨g, 0, none⟩ = false ∧ w.frozen? ⟨g, 1, none⟩ = false ∧ w.frozen? ⟨g, 2, none⟩ = false ∧ w.frozen? ⟨g, 3, none⟩ = false) :=
  ⟨⟨by rw [cell_of_row _ _ 0 _ _ _ h]; rfl, by rw [cell_of_row _ _ 1 _ _ _ h]; rfl, by rw [cell_of_row _ _ 2 _ _ _ h]; rfl, by rw [cell_of_row _ _ 3 _ _ _ h]; rfl⟩, frozen_of_row _ _ 0 _ _ h, frozen_of_row _ _ 1 _ _ h, frozen_of_row _ _ 2 _ _ h, frozen_of_row _ _ 3 _ _ h⟩
/-- Another cell of the call's own is stored: what stands in other blocks stays. -/
theorem row_other {w : World} {g k j : Nat} {o : Option Obj} (u : Value) (h : w.heap[g]? = o) (hne : g ≠ k) : (w.setCell ⟨k, j, none⟩ u).heap[g]? = o := (Below.heap_setCell w ⟨k, j, none⟩ u g hne).trans h
/-- A whole struct of four cells stored. -/
theorem store4 {w : World} {g : Nat} {a b c d : Value} {T : TypeId} (h : w.heap[g]? = some (.cells #[a, b, c, d] T (0, 0))) (u0 u1 u2 u3 : Value) : ((((w.setCell ⟨g, 0, none⟩ u0).setCell ⟨g, 1, none⟩ u1).setCell ⟨g, 2, none⟩ u2).setCell ⟨g, 3, none⟩ u3).heap[g]? = some (.cells #[u0, u1, u2, u3] T (0, 0)) :=
  set4_3 (set4_2 (set4_1 (set4_0 h)))
def vVar (v : GVar) : Value := .agg #[.string v.name, .int .u8 v.cls, .int .u8 v.ty, .int .i64 v.first]
def VarPost (w : World) (r : Nat) (vb : Value) (l : List Int) (p : Option (GVar × List Int)) (e : Ending) (w' : World) : Prop :=
  (∃ v : GVar, e = .returned (vVar v) ∧ v.Wf ∧ v.name.size ≤ 40 ∧ ∀ x rest, p = some (x, rest) → v = x) ∧ RdAt w' r vb l (p.map (·.2)) ∧ w.grownBy w' (some r)
theorem var_steps (o : Option (List Int)) : ∃ (P1 : Option (ByteArray × List Int)) (P2 P3 P4 : Option (Nat × List Int)), P1 = o.bind textP ∧ P2 = (P1.map (·.2)).bind (numP 255) ∧ P3 = (P2.map (·.2)).bind (numP 255) ∧ P4 = (P3.map (·.2)).bind (numP (wideOf ((P3.map (·.1)).getD 0))) ∧
    (o.bind varP).map (·.2) = P4.map (·.2) ∧ (∀ x rest, o.bind varP = some (x, rest) → (⟨(P1.map (·.1)).getD ⟨#[]⟩, (((P2.map (·.1)).getD 0 : Nat) : Int), (((P3.map (·.1)).getD 0 : Nat) : Int), loOf ((P3.map (·.1)).getD 0) + (((P4.map (·.1)).getD 0 : Nat) : Int)⟩ : GVar) = x) := by
  refine ⟨_, _, _, _, rfl, rfl, rfl, rfl, ?_, ?_⟩
  · cases o with
    | none => rfl
    | some l =>
      simp only [Option.bind_some, varP]
      cases h1 : textP l with
      | none => simp
      | some p =>
        cases h2 : numP 255 p.2 with
        | none => simp [h2]
        | some q =>
          cases h3 : numP 255 q.2 with
          | none => simp [h2, h3]
          | some t =>
            cases h4 : numP (wideOf t.1) t.2 with
            | none => simp [h2, h3, h4]
            | some d => simp [h2, h3, h4]
  · intro x rest h
    cases o with
    | none => cases h
    | some l =>
      simp only [Option.bind_some, varP] at h ⊢
      cases h1 : textP l with
      | none => simp [h1] at h
      | some p =>
        cases h2 : numP 255 p.2 with
        | none => simp [h1, h2] at h
        | some q =>
          cases h3 : numP 255 q.2 with
          | none => simp [h1, h2, h3] at h
          | some t =>
            cases h4 : numP (wideOf t.1) t.2 with
            | none => simp [h1, h2, h3, h4] at h
            | some d =>
              simp [h1, h2, h3, h4] at h
              simp [h2, h3, h4, h.1]
theorem num_le {most : Nat} {o : Option (List Int)} {P : Option (Nat × List Int)} (h : P = o.bind (numP most)) : (P.map (·.1)).getD 0 ≤ most := by
  subst h
  cases o with
  | none => exact Nat.zero_le _
  | some l =>
    show ((numP most l).map (·.1)).getD 0 ≤ most
    unfold numP
    cases getU l with
    | none => exact Nat.zero_le _
    | some q =>
      obtain ⟨n, r⟩ := q
      show (((if n ≤ most then some (n, r) else none) : Option (Nat × List Int)).map (·.1)).getD 0 ≤ most
      by_cases hn : n ≤ most
      · rw [if_pos hn]; exact hn
      · rw [if_neg hn]; exact Nat.zero_le _
theorem text_le {o : Option (List Int)} {P : Option (ByteArray × List Int)} (h : P = o.bind textP) : ((P.map (fun x : ByteArray × List Int => x.1)).getD (⟨#[]⟩ : ByteArray)).size ≤ 40 := by
  subst h
  cases o with
  | none => exact Nat.zero_le _
  | some l =>
    show (((textP l).map (fun x : ByteArray × List Int => x.1)).getD (⟨#[]⟩ : ByteArray)).size ≤ 40
    rw [text_is]
    unfold blobP
    cases getU l with
    | none => exact Nat.zero_le _
    | some q =>
      obtain ⟨n, r⟩ := q
      simp only [Option.bind_some]
      by_cases hn : n ≤ 40 ∧ n ≤ r.length
      · rw [if_pos hn]
        simp only [Option.map_some, Option.getD_some, strOfNums_size, List.length_take]
        omega
      · rw [if_neg hn]; exact Nat.zero_le _
set_option maxHeartbeats 4000000 in
set_option maxRecDepth 100000 in
theorem variable_any (w : World) (r : Nat) (vb : Value) (l : List Int) (hb : Bys l) (o : Option (List Int)) (h : RdAt w r vb l o) :
    Calls Try.prog 60 #[.pointer (some ⟨r, 0, none⟩)] w (VarPost w r vb l (o.bind varP)) := by
  obtain ⟨P1, P2, P3, P4, e1, e2, e3, e4, eo, ex⟩ := var_steps o
  have EX := Fact.mk ex
  have L1 := text_le e1
  have L2 := num_le e2
  have L3 := num_le e3
  have L4 := num_le e4
  have T1 := fun (W : World) (hW : RdAt W r vb l o) => text_any W r vb l hb o hW
  have T2 := fun (W : World) (hW : RdAt W r vb l (P1.map (·.2))) => number_any W r vb l hb _ hW 255
  have T3 := fun (W : World) (hW : RdAt W r vb l (P2.map (·.2))) => number_any W r vb l hb _ hW 255
  have T4 := fun (W : World) (hW : RdAt W r vb l (P3.map (·.2))) => number_any W r vb l hb _ hW (wideOf ((P3.map (·.1)).getD 0))
  rw [← e1] at T1
  rw [← e2] at T2
  rw [← e3] at T3
  rw [← e4] at T4
  obtain ⟨nm, hnm⟩ : ∃ nm, (P1.map (·.1)).getD ⟨#[]⟩ = nm := ⟨_, rfl⟩
  obtain ⟨c, hc⟩ : ∃ c, (P2.map (·.1)).getD 0 = c := ⟨_, rfl⟩
  obtain ⟨t, ht⟩ : ∃ t, (P3.map (·.1)).getD 0 = t := ⟨_, rfl⟩
  obtain ⟨d, hd⟩ : ∃ d, (P4.map (·.1)).getD 0 = d := ⟨_, rfl⟩
  unfold TextPost at T1
  unfold NumPost at T2 T3 T4
  rw [hnm] at T1 L1 EX
  rw [hc] at T2 L2 EX
  rw [ht] at T3 T4 L3 L4 EX
  rw [hd] at T4 L4 EX
  have e255 : ((255 : Nat) : Int) = 255 := rfl
  rw [e255] at T2 T3
  obtain ⟨lo, hlo⟩ : ∃ lo, loOf t = lo := ⟨_, rfl⟩
  obtain ⟨hi, hhi⟩ : ∃ hi, (rangeOf (t : Int)).2 = hi := ⟨_, rfl⟩
  obtain ⟨wd, hwd⟩ : ∃ wd, wideOf t = wd := ⟨_, rfl⟩
  have RG := fun W => range_any (t : Int) W
  have hlo2 : (rangeOf (t : Int)).1 = lo := hlo
  rw [hlo2, hhi] at RG
  have rb := range_bound (t : Int)
  rw [hlo2, hhi] at rb
  have hw : hi - lo = (wd : Int) := by rw [← hwd]; unfold wideOf; rw [hlo2, hhi]; omega
  rw [hlo] at EX
  rw [hwd] at T4 L4
  have K1 := Fact.mk T1
  have K2 := Fact.mk T2
  have K3 := Fact.mk T3
  have K4 := Fact.mk T4
  have KR := Fact.mk RG
  have H := Fact.mk h
  have EO := Fact.mk eo
  have NM := Fact.mk L1
  have D4 := Fact.mk L4
  have HW := Fact.mk hw
  have lt := h.lt
  obtain ⟨rb1, rb2, rb3, rb4⟩ := rb
  have hwb : wd ≤ 8589934592 := by omega
  clear e1 e2 e3 e4 eo ex T1 T2 T3 T4 RG hnm hc ht hd h L1 e255 hlo hlo2 hhi hwd hw
  go_enter Try.func60, Try.ntmps60
  go_wp2_with fail
  refine (K1.out _ (H.out.below (one_block w _).1)).mono ?_
  rintro e W1 ⟨rfl, h1, g1⟩
  have R0 := Fact.mk (grown_row g1 (heap_alloc_new w _) (by omega))
  have G1 := Fact.mk (grown_trans (World.grownBy_alloc w _ _) g1)
  have H1 := Fact.mk h1
  clear h1 g1 K1
  go_wp2_with fail
  refine (K2.out _ H1.out).mono ?_
  rintro e W2 ⟨rfl, h2, g2⟩
  have R0 := Fact.mk (grown_row g2 R0.out (by omega))
  have G2 := Fact.mk (grown_trans G1.out g2)
  have H2 := Fact.mk h2
  clear h2 g2 K2 G1 H1
  have lt2 := G2.out.size
  have lw2 : w.heap.size < W2.heap.size := (Array.getElem?_eq_some_iff.1 R0.out).1
  go_wp2_with fail
  refine (K3.out _ (H2.out.below (one_block W2 _).1)).mono ?_
  rintro e W3 ⟨rfl, h3, g3⟩
  have R1 := Fact.mk (grown_row g3 (heap_alloc_new W2 _) (by omega))
  have R0 := Fact.mk (grown_row g3 (((one_block W2 _).1.block w.heap.size lw2).trans R0.out) (by omega))
  have G3 := Fact.mk (grown_trans (grown_trans G2.out (World.grownBy_alloc W2 _ _)) g3)
  have H3 := Fact.mk h3
  clear h3 g3 K3 G2 H2
  obtain ⟨⟨-, -, c2, -⟩, -, -, f2, -⟩ := rdv_row4 R1.out
  go_upto_region 3 with (fail)
  have B3 := Fact.mk ((Below.refl w.heap.size W3).setCell (p := ⟨W2.heap.size, 2, none⟩) lt2 (.int .u8 (t : Int)))
  have R1' := Fact.mk (set4_2 (u := .int .u8 (t : Int)) R1.out)
  have R0' := Fact.mk (row_other (k := W2.heap.size) (j := 2) (.int .u8 (t : Int)) R0.out (by omega))
  have H3' := Fact.mk (H.out.low H3.out B3.out)
  have G3' := Fact.mk (grown_low G3.out B3.out)
  clear c2 f2 R1 R0 H3 G3 B3
  generalize W3.setCell ⟨W2.heap.size, 2, none⟩ (.int .u8 (t : Int)) = W4 at R1' R0' H3' G3' ⊢
  obtain ⟨⟨-, -, c2, c3⟩, -, -, -, f3⟩ := rdv_row4 R1'.out
  go_wp2_with fail
  refine (KR.out _).mono ?_
  rintro e W5 ⟨rfl, rfl⟩
  have hw2 : hi - lo = (wd : Int) := HW.out
  go_wp2_with fail
  refine (K4.out _ H3'.out).mono ?_
  rintro e W5 ⟨rfl, h5, g5⟩
  have R1 := Fact.mk (grown_row g5 R1'.out (by omega))
  have R0 := Fact.mk (grown_row g5 R0'.out (by omega))
  have G5 := Fact.mk (grown_trans G3'.out g5)
  have H5 := Fact.mk h5
  clear h5 g5 K4 G3' H3' R1' R0' c2 c3 f3 hw2
  obtain ⟨⟨-, -, -, c3⟩, -, -, -, f3⟩ := rdv_row4 R1.out
  go_upto_region 5 with (fail)
  have B5 := Fact.mk ((Below.refl w.heap.size W5).setCell (p := ⟨W2.heap.size, 3, none⟩) lt2 (.int .i64 (lo + (d : Int))))
  have R1' := Fact.mk (set4_3 (u := .int .i64 (lo + (d : Int))) R1.out)
  have R0' := Fact.mk (row_other (k := W2.heap.size) (j := 3) (.int .i64 (lo + (d : Int))) R0.out (by omega))
  have H5' := Fact.mk (H.out.low H5.out B5.out)
  have G5' := Fact.mk (grown_low G5.out B5.out)
  clear c3 f3 R1 R0 H5 G5 B5
  generalize W5.setCell ⟨W2.heap.size, 3, none⟩ (.int .i64 (lo + (d : Int))) = W6 at R1' R0' H5' G5' ⊢
  obtain ⟨⟨a0, a1, a2, a3⟩, -⟩ := rdv_row4 R1'.out
  obtain ⟨⟨b0, b1, b2, b3⟩, f0, f1, f2, f3⟩ := rdv_row4 R0'.out
  have B6 := Fact.mk (((((Below.refl w.heap.size W6).setCell (p := ⟨w.heap.size, 0, none⟩) (Nat.le_refl _) (.string nm)).setCell (p := ⟨w.heap.size, 1, none⟩) (Nat.le_refl _) (.int .u8 (c : Int))).setCell (p := ⟨w.heap.size, 2, none⟩) (Nat.le_refl _) (.int .u8 (t : Int))).setCell (p := ⟨w.heap.size, 3, none⟩) (Nat.le_refl _) (.int .i64 (lo + (d : Int))))
  have RX := Fact.mk (store4 R0'.out (.string nm) (.int .u8 (c : Int)) (.int .u8 (t : Int)) (.int .i64 (lo + (d : Int))))
  have HX := Fact.mk (H.out.low H5'.out B6.out)
  have GX := Fact.mk (grown_low G5'.out B6.out)
  clear R1' R0' H5' G5' B6
  go_wp2
  refine bodyPost_ret (res_cell1 Try.results60 _ _ w.heap.size rfl RX.out Try.underlying41 rfl Try.sizeVar) rfl ⟨⟨⟨nm, (c : Int), (t : Int), lo + (d : Int)⟩, rfl, ⟨⟨by show (0 : Int) ≤ (c : Int); omega, by show (c : Int) ≤ 255; omega⟩, ⟨by show (0 : Int) ≤ (t : Int); omega, by show (t : Int) ≤ 255; omega⟩, ⟨by have := D4.out; show _ ≤ lo + (d : Int); omega, by have := D4.out; show lo + (d : Int) ≤ _; omega⟩⟩, NM.out, EX.out⟩, ?_, GX.out⟩
  rw [EO.out]
  exact HX.out
end Go.Proofs.Ythiapebodpkamaa

