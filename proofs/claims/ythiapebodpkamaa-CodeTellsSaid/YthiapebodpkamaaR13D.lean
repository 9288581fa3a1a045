/- Contract of blockhouseref13.Read. Printed by gen_r13d.py. -/
import Derived.Test.YthiapebodpkamaaR13M
import Derived.Test.YthiapebodpkamaaR13B
import Derived.Test.YthiapebodpkamaaRead
namespace Go.Proofs.Ythiapebodpkamaa
open Go.RowKit
theorem three_laid (w : World) (o1 o2 o3 : Obj) : Below w.heap.size w (((w.alloc o1).alloc o2).alloc o3) ∧ (((w.alloc o1).alloc o2).alloc o3).heap[w.heap.size]? = some o1 ∧ (((w.alloc o1).alloc o2).alloc o3).heap[w.heap.size + 1]? = some o2 ∧ (((w.alloc o1).alloc o2).alloc o3).heap[w.heap.size + 1 + 1]? = some o3 ∧ (((w.alloc o1).alloc o2).alloc o3).heap.size = w.heap.size + 1 + 1 + 1 := by
  obtain ⟨w0, rfl, h⟩ := three_blocks w o1 o2 o3
  exact h
/-- A store into a block that is newer than the world w. -/
theorem low_set {w W : World} {g : Nat} (hg : w.heap.size ≤ g) (j : Nat) (u : Value) : Below w.heap.size W (W.setCell ⟨g, j, none⟩ u) := (Below.refl w.heap.size W).setCell (p := ⟨g, j, none⟩) hg u
def EBlkPost (w : World) (r : Nat) (vb : Value) (l : List Int) (p : Option (Int × List Int)) (e : Ending) (w' : World) : Prop :=
  (∃ y : Int, e = .returned (.int .u64 y) ∧ 0 ≤ y ∧ y ≤ 255 ∧ ∀ x rest, p = some (x, rest) → y = x) ∧ EyAt w' r vb l (p.map (·.2)) ∧ w.grownBy w' (some r)
theorem eblk_any (w : World) (r : Nat) (vb : Value) (l : List Int) (hb : Bys l) (hlm : l.length ≤ 1000000) (o : Option (List Int)) (h : EyAt w r vb l o) :
    Calls Try.prog 63 #[.pointer (some ⟨r, 0, none⟩), .int .u64 255] w (EBlkPost w r vb l (o.bind blkP)) := by
  refine (enum_any w r vb l hb hlm o h 255).mono ?_
  rintro e w' ⟨rfl, h1, h2⟩
  have hl := num_le (most := 255) (o := o) rfl
  have e1 : (o.bind blkP).map (·.2) = (o.bind (numP 255)).map (·.2) := by
    cases o with
    | none => rfl
    | some rest =>
      simp only [Option.bind_some, blkP]
      cases numP 255 rest with
      | none => rfl
      | some q => rfl
  refine ⟨⟨_, rfl, by omega, by omega, fun x rest hx => ?_⟩, by rw [e1]; exact h1, h2⟩
  cases o with
  | none => cases hx
  | some rest' =>
    simp only [Option.bind_some, blkP] at hx ⊢
    cases hn : numP 255 rest' with
    | none => rw [hn] at hx; cases hx
    | some q =>
      rw [hn] at hx
      cases hx
      rfl
set_option maxHeartbeats 8000000 in
set_option maxRecDepth 100000 in
theorem rRead_any (w : World) (v : Value) (l : List Int) (h : Rd oneU8 1 w v l) (hb : Bys l) (hlm : l.length ≤ 1000000) :
    Calls Try.prog 31 #[v] w (ReadPost w l) := by
  obtain ⟨P1, N1, V, N2, B, N3, I, e1, e2, e3, e4, e5, e6, e7, eo, ec⟩ := code_stepsQ l
  have L1 := num_le e2
  have L2 := num_le e4
  have L3 := num_le e6
  have T1 := fun (W : World) (r : Nat) (hW : EyAt W r v l (some l)) => etext_any W r v l hb hlm _ hW
  have T2 := fun (W : World) (r : Nat) (hW : EyAt W r v l (P1.map (·.2))) => enum_any W r v l hb hlm _ hW 200
  have T4 := fun (W : World) (r : Nat) (hW : EyAt W r v l (V.map (·.2))) => enum_any W r v l hb hlm _ hW 100
  have T6 := fun (W : World) (r : Nat) (hW : EyAt W r v l (B.map (·.2))) => enum_any W r v l hb hlm _ hW 2000
  rw [← e1] at T1
  rw [← e2] at T2
  rw [← e4] at T4
  rw [← e6] at T6
  unfold ETextPost at T1
  unfold ENumPost at T2 T4 T6
  obtain ⟨nm, hnm⟩ : ∃ nm, (P1.map (·.1)).getD ⟨#[]⟩ = nm := ⟨_, rfl⟩
  obtain ⟨n1, hn1⟩ : ∃ n, (N1.map (·.1)).getD 0 = n := ⟨_, rfl⟩
  obtain ⟨n2, hn2⟩ : ∃ n, (N2.map (·.1)).getD 0 = n := ⟨_, rfl⟩
  obtain ⟨n3, hn3⟩ : ∃ n, (N3.map (·.1)).getD 0 = n := ⟨_, rfl⟩
  have g1 : ∀ a r, P1 = some (a, r) → nm = a := fun a r h => by rw [← hnm, h]; rfl
  rw [hnm] at T1
  rw [hn1] at T2 L1 e3
  rw [hn2] at T4 L2 e5
  rw [hn3] at T6 L3 e7
  have c200 : ((200 : Nat) : Int) = 200 := rfl
  have c100 : ((100 : Nat) : Int) = 100 := rfl
  have c2000 : ((2000 : Nat) : Int) = 2000 := rfl
  rw [c200] at T2
  rw [c100] at T4
  rw [c2000] at T6
  have K1 := Fact.mk T1
  have K2 := Fact.mk T2
  have K4 := Fact.mk T4
  have K6 := Fact.mk T6
  have EV := Fact.mk e3
  have EB := Fact.mk e5
  have EI := Fact.mk e7
  have EO := Fact.mk eo
  have EC := Fact.mk (ec nm)
  have G1 := Fact.mk g1
  have hvb : 0 < l.length → ∀ b, v.ownBlock = some b → b < w.heap.size := by
    intro hp b hbk
    obtain ⟨_, A, c, rfl, _, _, hc⟩ := h
    obtain ⟨b', off, rfl, hc2⟩ := hc hp
    cases hbk
    exact World.block_lt_of_cell? w _ (hc2 0 hp 0 _ rfl)
  have H := Fact.mk h
  have BY := Fact.mk (And.intro hb hlm)
  have HVB := Fact.mk hvb
  obtain ⟨A0, q0, c0, rfl⟩ := rdr_slice h
  clear e1 e2 e3 e4 e5 e6 e7 eo ec T1 T2 T4 T6 hnm hn1 hn2 hn3 g1 h hb hvb c200 c100 c2000
  go_enter Try.func31, Try.ntmps31
  go_wp2_with fail
  have TL := three_laid w (.cells #[.string ⟨#[]⟩, .slice none 0 0, .slice none 0 0, .slice none 0 0] 32) (.cells #[.slice A0 q0 c0, .int .i64 0, .bool false] 112) (.cells #[.string ⟨#[]⟩, .slice none 0 0, .slice none 0 0, .slice none 0 0] 32)
  obtain ⟨tl1, tl2, tl3, tl4, tl5⟩ := TL
  obtain ⟨W0, hW0⟩ : ∃ W0, ((w.alloc (.cells #[.string ⟨#[]⟩, .slice none 0 0, .slice none 0 0, .slice none 0 0] 32)).alloc (.cells #[.slice A0 q0 c0, .int .i64 0, .bool false] 112)).alloc (.cells #[.string ⟨#[]⟩, .slice none 0 0, .slice none 0 0, .slice none 0 0] 32) = W0 := ⟨_, rfl⟩
  rw [hW0] at tl1 tl2 tl3 tl4 tl5 ⊢
  have R0 : EyAt W0 (w.heap.size + 1) (.slice A0 q0 c0) l (some l) := ⟨H.out.below tl1, 0, false, Nat.zero_le _, tl3, rfl, rfl⟩
  refine (K1.out _ _ R0).mono ?_
  rintro e W1 ⟨rfl, h1, g1⟩
  obtain ⟨r, hr⟩ : ∃ r, w.heap.size + 1 = r := ⟨_, rfl⟩
  rw [hr] at h1 g1 tl4 tl5 ⊢
  have hwr : w.heap.size < r := by omega
  obtain ⟨C, hC⟩ : ∃ C, r + 1 = C := ⟨_, rfl⟩
  rw [hC] at tl4 tl5 ⊢
  have hrC : r < C := by omega
  have ST : EReadSt w W1 r C (.slice A0 q0 c0) l (P1.map (·.2)) ⟨#[]⟩ (.slice none 0 0) (.slice none 0 0) (.slice none 0 0) [] [] [] :=
    ⟨h1, grown_row g1 tl2 (by omega), grown_row g1 tl4 (by omega), Own.nil _ _ _ _ _, Own.nil _ _ _ _ _, Own.nil _ _ _ _ _, tl1.grown g1 tl1.size (fun k hk => by cases hk; omega), hwr, hrC, HVB.out⟩
  have S0 := Fact.mk ST
  obtain ⟨⟨k0, k1, k2, k3⟩, f0, f1, f2, f3⟩ := rdv_row4 ST.row
  clear ST h1 g1 R0 K1 tl1 tl2 tl3 tl4 tl5 hW0 hr hC
  go_upto_region 4 with (fail)
  have ST : EReadSt w (W1.setCell ⟨C, 0, none⟩ (.string nm)) r C (.slice A0 q0 c0) l (P1.map (·.2)) nm (.slice none 0 0) (.slice none 0 0) (.slice none 0 0) [] [] [] :=
    ⟨S0.out.rd.kept (set_grown W1 C 0 (.string nm)) (fun hp b hb e => by cases e; have := HVB.out hp _ hb; omega) (fun e => by cases e; omega), row_other (.string nm) S0.out.res (by omega), set4_0 S0.out.row, Own.nil _ _ _ _ _, Own.nil _ _ _ _ _, Own.nil _ _ _ _ _, S0.out.bel.setCell (p := ⟨C, 0, none⟩) (by show w.heap.size ≤ C; omega) (.string nm), hwr, hrC, HVB.out⟩
  have S1 := Fact.mk ST
  clear ST S0 k0 k1 k2 k3 f0 f1 f2 f3
  generalize W1.setCell ⟨C, 0, none⟩ (.string nm) = W2 at *
  go_wp2_with fail
  refine (K2.out _ r S1.out.rd).mono ?_
  rintro e W3 ⟨rfl, h2, g2⟩
  have S1 := Fact.mk (S1.out.read h2 g2)
  clear h2 g2 K2
  go_upto_block 0 with (fail)
  go_cut [] (fun wx => ∃ (vv : Value) (xs : List GVar), Fact (EReadSt w wx r C (.slice A0 q0 c0) l (V.map (·.2)) nm vv (.slice none 0 0) (.slice none 0 0) xs [] [] ∧ (∀ a q, V = some (a, q) → xs = a) ∧ VarsOk xs ∧ xs.length ≤ 200))
  case first =>
    go_wp2_with fail
    go_loopw [6] (fun s wr => ∃ (k : Nat) (o : Option (List Int)) (vv : Value) (xs : List GVar), s = .int .u64 k ∧ Fact (EReadSt w wr r C (.slice A0 q0 c0) l o nm vv (.slice none 0 0) (.slice none 0 0) xs [] [] ∧ Prog V varQ k xs o ∧ xs.length + k ≤ 200 ∧ VarsOk xs)) (fun s _ => (intOf s).toNat)
    case atStart => exact ⟨n1, _, _, [], rfl, ⟨S1.out, by rw [EV.out]; exact prog_start, by simpa using L1, ⟨fun _ h => absurd h (by simp), fun _ h => absurd h (by simp)⟩⟩⟩
    case round =>
      obtain ⟨k, o, vv, xs, rfl, hst⟩ := hrel
      have hkk := hst.out.2.2.1
      have cb := hst.out.1.cells
      cases o with
      | none =>
        have HE := Fact.mk (prog_end hst.out.2.1 (.inr rfl))
        by_cases hk : 0 < k
        · have e1 : (0 : Int) < (k : Int) := by omega
          go_wp2_with fail
          go_meet
          exact ⟨vv, xs, ⟨by rw [HE.out.1]; exact hst.out.1, HE.out.2, hst.out.2.2.2, by omega⟩⟩
        · have e1 : ¬ (0 : Int) < (k : Int) := by omega
          have e2 : k = 0 := by omega
          go_wp2_with fail
          go_meet
          exact ⟨vv, xs, ⟨by rw [HE.out.1]; exact hst.out.1, HE.out.2, hst.out.2.2.2, by omega⟩⟩
      | some rest =>
        by_cases hk : 0 < k
        · have e1 : (0 : Int) < (k : Int) := by omega
          obtain ⟨i0, hi, hz0, hz1, hz2⟩ := varInfo
          have HS := Fact.mk hst.out.1
          have HP := Fact.mk hst.out.2.1
          have HV := Fact.mk hst.out.2.2.2
          have hrC := HS.out.rC
          have lr : r < wr.heap.size := HS.out.rd.lt
          have lC : C < wr.heap.size := (Array.getElem?_eq_some_iff.1 HS.out.row).1
          have cb2 : wr.cell? ⟨r, 2, none⟩ = some (.bool false) := cb
          clear hst cb
          have hb := BY.out.1
          have hlm := BY.out.2
          obtain ⟨Q1, Q2, Q3, Q4, a1, a2, a3, a4, ao, ax⟩ := var_stepsQ (some rest)
          have M1 := text_le a1
          have U1 := fun (W : World) (hW : EyAt W r (.slice A0 q0 c0) l (some rest)) => etext_any W r _ l hb hlm _ hW
          rw [← a1] at U1
          unfold ETextPost at U1
          obtain ⟨z1, hz1⟩ : ∃ x, (Q1.map (·.1)).getD ⟨#[]⟩ = x := ⟨_, rfl⟩
          rw [hz1] at U1 M1 ax
          have K1x := Fact.mk U1
          clear U1 a1 hz1
          have M2 := num_le a2
          have U2 := fun (W : World) (hW : EyAt W r (.slice A0 q0 c0) l (Q1.map (·.2))) => enum_any W r _ l hb hlm _ hW 255
          rw [← a2] at U2
          unfold ENumPost at U2
          obtain ⟨z2, hz2⟩ : ∃ x, (Q2.map (·.1)).getD 0 = x := ⟨_, rfl⟩
          rw [hz2] at U2 M2 ax
          have q2 : ((255 : Nat) : Int) = 255 := rfl
          rw [q2] at U2
          have K2x := Fact.mk U2
          clear U2 a2 hz2 q2
          have M3 := num_le a3
          have U3 := fun (W : World) (hW : EyAt W r (.slice A0 q0 c0) l (Q2.map (·.2))) => enum_any W r _ l hb hlm _ hW 255
          rw [← a3] at U3
          unfold ENumPost at U3
          obtain ⟨z3, hz3⟩ : ∃ x, (Q3.map (·.1)).getD 0 = x := ⟨_, rfl⟩
          rw [hz3] at U3 M3 ax
          have q3 : ((255 : Nat) : Int) = 255 := rfl
          rw [q3] at U3
          have K3x := Fact.mk U3
          clear U3 a3 hz3 q3
          have M4 := num_le a4
          have U4 := fun (W : World) (hW : EyAt W r (.slice A0 q0 c0) l (Q3.map (·.2))) => enum_any W r _ l hb hlm _ hW 1099511627776
          rw [← a4] at U4
          unfold ENumPost at U4
          obtain ⟨z4, hz4⟩ : ∃ x, (Q4.map (·.1)).getD 0 = x := ⟨_, rfl⟩
          rw [hz4] at U4 M4 ax
          have q4 : ((1099511627776 : Nat) : Int) = 1099511627776 := rfl
          rw [q4] at U4
          have K4x := Fact.mk U4
          clear U4 a4 hz4 q4
          have AO := Fact.mk ao
          have AX := Fact.mk ax
          clear ao ax hb hlm
          obtain ⟨lo, hlo⟩ : ∃ lo, loOf z3 = lo := ⟨_, rfl⟩
          obtain ⟨hi9, hhi⟩ : ∃ hi, (rangeOf (z3 : Int)).2 = hi := ⟨_, rfl⟩
          have RGN := fun W => rRange_any (z3 : Int) W
          have hlo2 : (rangeOf (z3 : Int)).1 = lo := hlo
          have rb := range_bound (z3 : Int)
          rw [hlo2, hhi] at RGN rb
          rw [hlo] at AX
          obtain ⟨rb1, rb2, rb3, rb4⟩ := rb
          have KRN := Fact.mk RGN
          have cv2 : IntKind.u8.wrap (z2 : Int) = (z2 : Int) := by rw [IntKind.wrap_u8]; omega
          have cv3 : IntKind.u8.wrap (z3 : Int) = (z3 : Int) := by rw [IntKind.wrap_u8]; omega
          have cv4 : IntKind.i64.wrap (z4 : Int) = (z4 : Int) := by rw [IntKind.wrap_i64]; omega
          have OB := one_block wr (.cells #[.string ⟨#[]⟩, .int .u8 0, .int .u8 0, .int .i64 0] 41)
          have WY : Fact ((⟨z1, z2, z3, lo + z4⟩ : GVar).Wf ∧ z1.size ≤ 40) := ⟨⟨⟨by show (0 : Int) ≤ (z2 : Int); omega, by show (z2 : Int) ≤ 255; omega⟩, ⟨by show (0 : Int) ≤ (z3 : Int); omega, by show (z3 : Int) ≤ 255; omega⟩, ⟨by show _ ≤ lo + (z4 : Int); omega, by show lo + (z4 : Int) ≤ _; omega⟩⟩, M1⟩
          clear hlo hhi RGN hlo2
          go_wp2_with fail
          refine (K1x.out _ (HS.out.rd.below OB.1)).mono ?_
          rintro e WK ⟨rfl, hh, gg⟩
          have RG := Fact.mk (grown_row gg OB.2.1 (by omega))
          have GR := Fact.mk (grown_trans (World.grownBy_alloc wr _ _) gg)
          have EY := Fact.mk hh
          clear hh gg K1x OB
          obtain ⟨⟨y0, y1, y2, y3⟩, f0, f1, f2, f3⟩ := rdv_row4 RG.out
          go_upto_region 9 with (fail)
          have BS := low_set (w := wr) (W := WK) (Nat.le_refl _) 0 (.string z1)
          have RG' := Fact.mk (set4_0 (u := .string z1) RG.out)
          have EY' := Fact.mk (HS.out.rd.low EY.out BS)
          have GR' := Fact.mk (grown_low GR.out BS)
          clear y0 y1 y2 y3 f0 f1 f2 f3 RG EY GR BS
          have RG := RG'
          have EY := EY'
          have GR := GR'
          clear RG' EY' GR'
          generalize WK.setCell ⟨wr.heap.size, 0, none⟩ (.string z1) = WS at *
          go_wp2_with fail
          refine (K2x.out _ EY.out).mono ?_
          rintro e WK ⟨rfl, hh, gg⟩
          have RG := Fact.mk (grown_row gg RG.out (by omega))
          have GR := Fact.mk (grown_trans GR.out gg)
          have EY := Fact.mk hh
          clear hh gg K2x
          obtain ⟨⟨y0, y1, y2, y3⟩, f0, f1, f2, f3⟩ := rdv_row4 RG.out
          go_upto_region 10 with (fail)
          have BS := low_set (w := wr) (W := WK) (Nat.le_refl _) 1 (.int .u8 z2)
          have RG' := Fact.mk (set4_1 (u := .int .u8 z2) RG.out)
          have EY' := Fact.mk (HS.out.rd.low EY.out BS)
          have GR' := Fact.mk (grown_low GR.out BS)
          clear y0 y1 y2 y3 f0 f1 f2 f3 RG EY GR BS
          have RG := RG'
          have EY := EY'
          have GR := GR'
          clear RG' EY' GR'
          generalize WK.setCell ⟨wr.heap.size, 1, none⟩ (.int .u8 z2) = WS at *
          go_wp2_with fail
          refine (K3x.out _ EY.out).mono ?_
          rintro e WK ⟨rfl, hh, gg⟩
          have RG := Fact.mk (grown_row gg RG.out (by omega))
          have GR := Fact.mk (grown_trans GR.out gg)
          have EY := Fact.mk hh
          clear hh gg K3x
          obtain ⟨⟨y0, y1, y2, y3⟩, f0, f1, f2, f3⟩ := rdv_row4 RG.out
          go_upto_region 11 with (fail)
          have BS := low_set (w := wr) (W := WK) (Nat.le_refl _) 2 (.int .u8 z3)
          have RG' := Fact.mk (set4_2 (u := .int .u8 z3) RG.out)
          have EY' := Fact.mk (HS.out.rd.low EY.out BS)
          have GR' := Fact.mk (grown_low GR.out BS)
          clear y0 y1 y2 y3 f0 f1 f2 f3 RG EY GR BS
          have RG := RG'
          have EY := EY'
          have GR := GR'
          clear RG' EY' GR'
          generalize WK.setCell ⟨wr.heap.size, 2, none⟩ (.int .u8 z3) = WS at *
          obtain ⟨⟨-, -, y2, -⟩, -⟩ := rdv_row4 RG.out
          go_wp2_with fail
          refine (KRN.out _).mono ?_
          rintro e WR ⟨rfl, rfl⟩
          clear y2
          go_wp2_with fail
          refine (K4x.out _ EY.out).mono ?_
          rintro e WK ⟨rfl, hh, gg⟩
          have RG := Fact.mk (grown_row gg RG.out (by omega))
          have GR := Fact.mk (grown_trans GR.out gg)
          have EY := Fact.mk hh
          clear hh gg K4x
          obtain ⟨⟨y0, y1, y2, y3⟩, f0, f1, f2, f3⟩ := rdv_row4 RG.out
          go_upto_region 13 with (fail)
          have BS := low_set (w := wr) (W := WK) (Nat.le_refl _) 3 (.int .i64 (lo + z4))
          have RG' := Fact.mk (set4_3 (u := .int .i64 (lo + z4)) RG.out)
          have EY' := Fact.mk (HS.out.rd.low EY.out BS)
          have GR' := Fact.mk (grown_low GR.out BS)
          clear y0 y1 y2 y3 f0 f1 f2 f3 RG EY GR BS
          have RG := RG'
          have EY := EY'
          have GR := GR'
          clear RG' EY' GR'
          generalize WK.setCell ⟨wr.heap.size, 3, none⟩ (.int .i64 (lo + z4)) = WS at *
          have SX := Fact.mk (HS.out.read EY.out GR.out)
          obtain ⟨⟨y0, y1, y2, y3⟩, -⟩ := rdv_row4 RG.out
          obtain ⟨⟨x0, x1, x2, x3⟩, f0, f1, f2, f3⟩ := rdv_row4 SX.out.row
          have ly := (Array.getElem?_eq_some_iff.1 RG.out).1
          have lx := (Array.getElem?_eq_some_iff.1 SX.out.row).1
          obtain ⟨AV, nV, cV, rfl⟩ := SX.out.slices.1
          have HO := Fact.mk SX.out.oV
          clear EY GR RG
          go_wp2_with (at_builtin; refine wpList_pushR rfl _ _ 28 rfl (C + 1) 41 i0 (.agg #[.string ⟨#[]⟩, .int .u8 0, .int .u8 0, .int .i64 0]) 4 32 Try.underlying28 hi hz0 hz1 hz2 rfl (by decide) (by decide) encVar _ xs rfl HO.out (⟨z1, z2, z3, lo + z4⟩ : GVar) rfl rfl (var_one _) (by omega) (by omega) ?_)
          intro v' W' ho' hr'
          obtain ⟨A7, n7, c7, rfl⟩ := ho'.slice
          have row7 := row_block hr'.g SX.out.row (fun e => ho_C HO.out e)
          obtain ⟨⟨u0, u1, u2, u3⟩, e0, e1', e2', e3'⟩ := rdv_row4 row7
          have STN := Fact.mk (SX.out.grewV (⟨z1, z2, z3, lo + z4⟩ : GVar) ho' hr'.g)
          have HPk : Fact (Prog V varQ (k - 1 + 1) xs (some rest)) := ⟨by rw [show k - 1 + 1 = k by omega]; exact HP.out⟩
          have HPN := Fact.mk (prog_step HPk.out AX.out)
          rw [AO.out] at HPN
          have hk1 : (k : Int) - 1 = ((k - 1 : Nat) : Int) := by omega
          clear y0 y1 y2 y3 x0 x1 x2 x3 f0 f1 f2 f3 ho' hr' row7 SX HP HPk
          go_wp2_with fail
          go_roundw
          case rel => exact ⟨k - 1, _, _, _, rfl, ⟨STN.out, HPN.out, by rw [List.length_append]; simp only [List.length_cons, List.length_nil]; omega, (HV.out.snoc WY.out.1 WY.out.2)⟩⟩
          case measure => simp [intOf]; omega
        · have e1 : ¬ (0 : Int) < (k : Int) := by omega
          have e2 : k = 0 := by omega
          have HE := Fact.mk (prog_end hst.out.2.1 (.inl e2))
          go_wp2_with fail
          go_meet
          exact ⟨vv, xs, ⟨by rw [HE.out.1]; exact hst.out.1, HE.out.2, hst.out.2.2.2, by omega⟩⟩
  case rest =>
    obtain ⟨vV, xs, hc⟩ := hcut
    have SV := Fact.mk hc.out.1
    have XV := Fact.mk hc.out.2.1
    have OV := Fact.mk hc.out.2.2.1
    clear S1 hc
    go_wp2_with fail
    refine (K4.out _ r SV.out.rd).mono ?_
    rintro e W4 ⟨rfl, h4, g4⟩
    have S1 := Fact.mk (SV.out.read h4 g4)
    clear h4 g4 SV K4
    go_upto_block 2 with (fail)
    go_cut [] (fun wx => ∃ (vv : Value) (ks : List Int), Fact (EReadSt w wx r C (.slice A0 q0 c0) l (B.map (·.2)) nm vV vv (.slice none 0 0) xs ks [] ∧ (∀ a q, B = some (a, q) → ks = a) ∧ (∀ k ∈ ks, 0 ≤ k ∧ k ≤ 255) ∧ ks.length ≤ 100))
    case first =>
      go_wp2_with fail
      go_loopw [10] (fun s wr => ∃ (k : Nat) (o : Option (List Int)) (vv : Value) (ks : List Int), s = .int .u64 k ∧ Fact (EReadSt w wr r C (.slice A0 q0 c0) l o nm vV vv (.slice none 0 0) xs ks [] ∧ Prog B blkP k ks o ∧ ks.length + k ≤ 100 ∧ (∀ k ∈ ks, 0 ≤ k ∧ k ≤ 255))) (fun s _ => (intOf s).toNat)
      case atStart => exact ⟨n2, _, _, [], rfl, ⟨S1.out, by rw [EB.out]; exact prog_start, by simpa using L2, fun _ h => absurd h (by simp)⟩⟩
      case round =>
        obtain ⟨k, o, vv, ks, rfl, hst⟩ := hrel
        have hkk := hst.out.2.2.1
        have cb := hst.out.1.cells
        cases o with
        | none =>
          have HE := Fact.mk (prog_end hst.out.2.1 (.inr rfl))
          by_cases hk : 0 < k
          · have e1 : (0 : Int) < (k : Int) := by omega
            go_wp2_with fail
            go_meet
            exact ⟨vv, ks, ⟨by rw [HE.out.1]; exact hst.out.1, HE.out.2, hst.out.2.2.2, by omega⟩⟩
          · have e1 : ¬ (0 : Int) < (k : Int) := by omega
            have e2 : k = 0 := by omega
            go_wp2_with fail
            go_meet
            exact ⟨vv, ks, ⟨by rw [HE.out.1]; exact hst.out.1, HE.out.2, hst.out.2.2.2, by omega⟩⟩
        | some rest =>
          by_cases hk : 0 < k
          · have e1 : (0 : Int) < (k : Int) := by omega
            obtain ⟨i0, hi, hz0, hz1, hz2⟩ := kindInfo
            have HS := Fact.mk hst.out.1
            have HP := Fact.mk hst.out.2.1
            have HV := Fact.mk hst.out.2.2.2
            have hrC := HS.out.rC
            have lr : r < wr.heap.size := HS.out.rd.lt
            have lC : C < wr.heap.size := (Array.getElem?_eq_some_iff.1 HS.out.row).1
            have cb2 : wr.cell? ⟨r, 2, none⟩ = some (.bool false) := cb
            clear hst cb
            go_wp2_with fail
            have KA : Fact (∀ W' : World, W'.heap[C]? = some (.cells #[.string nm, vV, vv, (.slice none 0 0)] 32 (0, 0)) → W'.cell? ⟨C, 2, none⟩ = some vv ∧ W'.frozen? ⟨C, 2, none⟩ = false) := ⟨fun W' hW => ⟨by rw [cell_of_row _ _ 2 _ _ _ hW]; rfl, frozen_of_row _ _ 2 _ _ hW⟩⟩
            have KVD := Fact.mk (eblk_any wr.drew r _ l BY.out.1 BY.out.2 _ (HS.out.rd.below (Below.refl _ _).drew))
            have RW := Fact.mk HS.out.row
            clear cb2
            obtain ⟨c0', f0'⟩ := KA.out _ RW.out
            go_region_law (first | (refine step_append_lies _ (by rfl) _ _ 29 (by rfl) (C + 1) 42 i0 (.int .u8 0) 1 1 Try.underlying29 hi hz0 hz1 hz2 (by rfl) (by decide) vv ks.length (ks.flatMap oneU8) (by rfl) (World.ownsRow.alloc ST6.out.oB _) ⟨W6.heap.size, 0, none⟩ 1 1 (oneU8 y) (by rfl) (by rfl) (World.news_of_block (cs := (oneU8 y).toArray) (t := 42) (fr := (0, 0)) (heap_alloc_new W6 _)) (kind_one y) (by decide) (by simp only [maxLen]; omega) (by omega) (by have := (Array.getElem?_eq_some_iff.1 RW6.out).1; simp; omega) (W6.heap.size + 1) (by simp) ?_; intro gg cap w1 hown1 hgrow hat hlt; have RW7 : Fact (w1.heap[C]? = some (.cells #[.string nm, vV, vv, (.slice none 0 0)] 32 (0, 0))) := ⟨(hgrow.block C (by simp; omega) (fun e => ho_C ST6.out.oB e.symm)).trans (((one_block W6 _).1.block C l6).trans RW6.out)⟩; obtain ⟨c7, f7⟩ := KA.out _ RW7.out; have OW := Fact.mk hown1; have GR := Fact.mk hgrow; clear hown1 hgrow) | (go_simp; go_at_call 63; (with_reducible refine KVD.out.mono ?_); rintro e W6 ⟨⟨y, rfl, hy0, hy1, hy⟩, h6, g6⟩; have hcv : IntKind.u8.wrap y = y := (by rw [IntKind.wrap_u8]; omega); have RW6 : Fact (W6.heap[C]? = some (.cells #[.string nm, vV, vv, (.slice none 0 0)] 32 (0, 0))) := ⟨grown_row g6 RW.out (by omega)⟩; have ST6 := Fact.mk ((HS.out.below (Below.refl _ _).drew).read h6 g6); have HY := Fact.mk hy; have WY := Fact.mk (And.intro hy0 hy1); have l6 : C < W6.heap.size := (Array.getElem?_eq_some_iff.1 RW6.out).1; obtain ⟨c6, f6⟩ := KA.out _ RW6.out; clear h6 g6 hy))
            all_goals
              have HPk : Fact (Prog B blkP (k - 1 + 1) ks (some rest)) := ⟨by rw [show k - 1 + 1 = k by omega]; exact HP.out⟩
              have STN := Fact.mk (ST6.out.grewB y (by show w1.ownsRow _ _ _ _ _ _; rw [List.length_append, List.flatMap_append]; simpa using OW.out) (grown_trans (World.grownBy_alloc W6 _ _) GR.out))
              have HPN := Fact.mk (prog_step HPk.out HY.out)
              clear HP HPk c7 f7 c6 f6 OW GR c0' f0' RW RW6 RW7 KVD KA ST6 HS
              have hk1 : (k : Int) - 1 = ((k - 1 : Nat) : Int) := by omega
              go_wp2_with fail
              go_roundw
              case rel => exact ⟨k - 1, _, _, _, rfl, ⟨STN.out, HPN.out, by rw [List.length_append]; simp only [List.length_cons, List.length_nil]; omega, (kinds_snoc HV.out WY.out)⟩⟩
              case measure => simp [intOf]; omega
          · have e1 : ¬ (0 : Int) < (k : Int) := by omega
            have e2 : k = 0 := by omega
            have HE := Fact.mk (prog_end hst.out.2.1 (.inl e2))
            go_wp2_with fail
            go_meet
            exact ⟨vv, ks, ⟨by rw [HE.out.1]; exact hst.out.1, HE.out.2, hst.out.2.2.2, by omega⟩⟩
    case rest =>
      obtain ⟨vB, ks, hc⟩ := hcut
      have SB := Fact.mk hc.out.1
      have XB := Fact.mk hc.out.2.1
      have OB := Fact.mk hc.out.2.2.1
      clear S1 hc
      go_wp2_with fail
      refine (K6.out _ r SB.out.rd).mono ?_
      rintro e W5 ⟨rfl, h5, g5⟩
      have S1 := Fact.mk (SB.out.read h5 g5)
      clear h5 g5 SB K6
      go_upto_block 4 with (fail)
      go_cut [] (fun wx => ∃ (vv : Value) (is : List GIns), Fact (EReadSt w wx r C (.slice A0 q0 c0) l (I.map (·.2)) nm vV vB vv xs ks is ∧ (∀ a q, I = some (a, q) → is = a) ∧ (∀ i ∈ is, i.Wf) ∧ is.length ≤ 2000))
      case first =>
        go_wp2_with fail
        go_loopw [11] (fun s wr => ∃ (k : Nat) (o : Option (List Int)) (vv : Value) (is : List GIns), s = .int .u64 k ∧ Fact (EReadSt w wr r C (.slice A0 q0 c0) l o nm vV vB vv xs ks is ∧ Prog I insQ k is o ∧ is.length + k ≤ 2000 ∧ (∀ i ∈ is, i.Wf))) (fun s _ => (intOf s).toNat)
        case atStart => exact ⟨n3, _, _, [], rfl, ⟨S1.out, by rw [EI.out]; exact prog_start, by simpa using L3, fun _ h => absurd h (by simp)⟩⟩
        case round =>
          obtain ⟨k, o, vv, is, rfl, hst⟩ := hrel
          have hkk := hst.out.2.2.1
          have cb := hst.out.1.cells
          cases o with
          | none =>
            have HE := Fact.mk (prog_end hst.out.2.1 (.inr rfl))
            by_cases hk : 0 < k
            · have e1 : (0 : Int) < (k : Int) := by omega
              go_wp2_with fail
              go_meet
              exact ⟨vv, is, ⟨by rw [HE.out.1]; exact hst.out.1, HE.out.2, hst.out.2.2.2, by omega⟩⟩
            · have e1 : ¬ (0 : Int) < (k : Int) := by omega
              have e2 : k = 0 := by omega
              go_wp2_with fail
              go_meet
              exact ⟨vv, is, ⟨by rw [HE.out.1]; exact hst.out.1, HE.out.2, hst.out.2.2.2, by omega⟩⟩
          | some rest =>
            by_cases hk : 0 < k
            · have e1 : (0 : Int) < (k : Int) := by omega
              obtain ⟨i0, hi, hz0, hz1, hz2⟩ := insInfoR
              have HS := Fact.mk hst.out.1
              have HP := Fact.mk hst.out.2.1
              have HV := Fact.mk hst.out.2.2.2
              have hrC := HS.out.rC
              have lr : r < wr.heap.size := HS.out.rd.lt
              have lC : C < wr.heap.size := (Array.getElem?_eq_some_iff.1 HS.out.row).1
              have cb2 : wr.cell? ⟨r, 2, none⟩ = some (.bool false) := cb
              clear hst cb
              have hb := BY.out.1
              have hlm := BY.out.2
              obtain ⟨Q1, Q2, Q3, Q4, a1, a2, a3, a4, ao, ax⟩ := ins_stepsQ (some rest)
              have M1 := num_le a1
              have U1 := fun (W : World) (hW : EyAt W r (.slice A0 q0 c0) l (some rest)) => enum_any W r _ l hb hlm _ hW 255
              rw [← a1] at U1
              unfold ENumPost at U1
              obtain ⟨z1, hz1⟩ : ∃ x, (Q1.map (·.1)).getD 0 = x := ⟨_, rfl⟩
              rw [hz1] at U1 M1 ax
              have q1 : ((255 : Nat) : Int) = 255 := rfl
              rw [q1] at U1
              have K1x := Fact.mk U1
              clear U1 a1 hz1 q1
              have M2 := num_le a2
              have U2 := fun (W : World) (hW : EyAt W r (.slice A0 q0 c0) l (Q1.map (·.2))) => enum_any W r _ l hb hlm _ hW 255
              rw [← a2] at U2
              unfold ENumPost at U2
              obtain ⟨z2, hz2⟩ : ∃ x, (Q2.map (·.1)).getD 0 = x := ⟨_, rfl⟩
              rw [hz2] at U2 M2 ax
              have q2 : ((255 : Nat) : Int) = 255 := rfl
              rw [q2] at U2
              have K2x := Fact.mk U2
              clear U2 a2 hz2 q2
              have M3 := num_le a3
              have U3 := fun (W : World) (hW : EyAt W r (.slice A0 q0 c0) l (Q2.map (·.2))) => enum_any W r _ l hb hlm _ hW 5000
              rw [← a3] at U3
              unfold ENumPost at U3
              obtain ⟨z3, hz3⟩ : ∃ x, (Q3.map (·.1)).getD 0 = x := ⟨_, rfl⟩
              rw [hz3] at U3 M3 ax
              have q3 : ((5000 : Nat) : Int) = 5000 := rfl
              rw [q3] at U3
              have K3x := Fact.mk U3
              clear U3 a3 hz3 q3
              have M4 := num_le a4
              have U4 := fun (W : World) (hW : EyAt W r (.slice A0 q0 c0) l (Q3.map (·.2))) => enum_any W r _ l hb hlm _ hW 1099511627776
              rw [← a4] at U4
              unfold ENumPost at U4
              obtain ⟨z4, hz4⟩ : ∃ x, (Q4.map (·.1)).getD 0 = x := ⟨_, rfl⟩
              rw [hz4] at U4 M4 ax
              have q4 : ((1099511627776 : Nat) : Int) = 1099511627776 := rfl
              rw [q4] at U4
              have K4x := Fact.mk U4
              clear U4 a4 hz4 q4
              have AO := Fact.mk ao
              have AX := Fact.mk ax
              clear ao ax hb hlm
              have cv1 : IntKind.u8.wrap (z1 : Int) = (z1 : Int) := by rw [IntKind.wrap_u8]; omega
              have cv2 : IntKind.u8.wrap (z2 : Int) = (z2 : Int) := by rw [IntKind.wrap_u8]; omega
              have cv3 : IntKind.i64.wrap (z3 : Int) = (z3 : Int) := by rw [IntKind.wrap_i64]; omega
              obtain ⟨hf, hhf⟩ : ∃ hf, z4 / 2 = hf := ⟨_, rfl⟩
              have cf1 : (z4 : Int) / 2 = (hf : Int) := by omega
              have cf2 : IntKind.i64.wrap (hf : Int) = (hf : Int) := by rw [IntKind.wrap_i64]; omega
              have hfb : hf ≤ 549755813888 := by omega
              have UZ : Fact (unzig z4 = if z4 % 2 = 1 then -(hf : Int) - 1 else (hf : Int)) := ⟨by unfold unzig; rw [hhf]⟩
              have OB9 := one_block wr (.cells #[.int .u8 0, .int .u8 0, .int .i64 0, .int .i64 0] 38)
              clear hhf
              go_wp2_with fail
              refine (K1x.out _ (HS.out.rd.below OB9.1)).mono ?_
              rintro e WK ⟨rfl, hh, gg⟩
              have RG := Fact.mk (grown_row gg OB9.2.1 (by omega))
              have GR := Fact.mk (grown_trans (World.grownBy_alloc wr _ _) gg)
              have EY := Fact.mk hh
              clear hh gg K1x OB9
              obtain ⟨⟨y0, y1, y2, y3⟩, f0, f1, f2, f3⟩ := rdv_row4 RG.out
              go_upto_region 23 with (fail)
              have BS := low_set (w := wr) (W := WK) (Nat.le_refl _) 0 (.int .u8 z1)
              have RG' := Fact.mk (set4_0 (u := .int .u8 z1) RG.out)
              have EY' := Fact.mk (HS.out.rd.low EY.out BS)
              have GR' := Fact.mk (grown_low GR.out BS)
              clear y0 y1 y2 y3 f0 f1 f2 f3 RG EY GR BS
              have RG := RG'
              have EY := EY'
              have GR := GR'
              clear RG' EY' GR'
              generalize WK.setCell ⟨wr.heap.size, 0, none⟩ (.int .u8 z1) = WS at *
              go_wp2_with fail
              refine (K2x.out _ EY.out).mono ?_
              rintro e WK ⟨rfl, hh, gg⟩
              have RG := Fact.mk (grown_row gg RG.out (by omega))
              have GR := Fact.mk (grown_trans GR.out gg)
              have EY := Fact.mk hh
              clear hh gg K2x
              obtain ⟨⟨y0, y1, y2, y3⟩, f0, f1, f2, f3⟩ := rdv_row4 RG.out
              go_upto_region 24 with (fail)
              have BS := low_set (w := wr) (W := WK) (Nat.le_refl _) 1 (.int .u8 z2)
              have RG' := Fact.mk (set4_1 (u := .int .u8 z2) RG.out)
              have EY' := Fact.mk (HS.out.rd.low EY.out BS)
              have GR' := Fact.mk (grown_low GR.out BS)
              clear y0 y1 y2 y3 f0 f1 f2 f3 RG EY GR BS
              have RG := RG'
              have EY := EY'
              have GR := GR'
              clear RG' EY' GR'
              generalize WK.setCell ⟨wr.heap.size, 1, none⟩ (.int .u8 z2) = WS at *
              go_wp2_with fail
              refine (K3x.out _ EY.out).mono ?_
              rintro e WK ⟨rfl, hh, gg⟩
              have RG := Fact.mk (grown_row gg RG.out (by omega))
              have GR := Fact.mk (grown_trans GR.out gg)
              have EY := Fact.mk hh
              clear hh gg K3x
              obtain ⟨⟨y0, y1, y2, y3⟩, f0, f1, f2, f3⟩ := rdv_row4 RG.out
              go_upto_region 25 with (fail)
              have BS := low_set (w := wr) (W := WK) (Nat.le_refl _) 2 (.int .i64 z3)
              have RG' := Fact.mk (set4_2 (u := .int .i64 z3) RG.out)
              have EY' := Fact.mk (HS.out.rd.low EY.out BS)
              have GR' := Fact.mk (grown_low GR.out BS)
              clear y0 y1 y2 y3 f0 f1 f2 f3 RG EY GR BS
              have RG := RG'
              have EY := EY'
              have GR := GR'
              clear RG' EY' GR'
              generalize WK.setCell ⟨wr.heap.size, 2, none⟩ (.int .i64 z3) = WS at *
              go_wp2_with fail
              refine (K4x.out _ EY.out).mono ?_
              rintro e WK ⟨rfl, hh, gg⟩
              have RG := Fact.mk (grown_row gg RG.out (by omega))
              have GR := Fact.mk (grown_trans GR.out gg)
              have EY := Fact.mk hh
              clear hh gg K4x
              obtain ⟨⟨y0, y1, y2, y3⟩, f0, f1, f2, f3⟩ := rdv_row4 RG.out
              go_upto_region 27 with (fail)
              have BS := low_set (w := wr) (W := WK) (Nat.le_refl _) 3 (.int .i64 hf)
              have RG' := Fact.mk (set4_3 (u := .int .i64 hf) RG.out)
              have EY' := Fact.mk (HS.out.rd.low EY.out BS)
              have GR' := Fact.mk (grown_low GR.out BS)
              clear y0 y1 y2 y3 f0 f1 f2 f3 RG EY GR BS
              have RG := RG'
              have EY := EY'
              have GR := GR'
              clear RG' EY' GR'
              generalize WK.setCell ⟨wr.heap.size, 3, none⟩ (.int .i64 hf) = WS at *
              by_cases hodd : z4 % 2 = 1
              · have co : ((z4 : Int) % 2 == 1) = true := beq_iff_eq.2 (by omega)
                obtain ⟨⟨y0, y1, y2, y3⟩, f0, f1, f2, f3⟩ := rdv_row4 RG.out
                go_upto_region 29 with (fail)
                have BS := low_set (w := wr) (W := WS) (Nat.le_refl _) 3 (.int .i64 (-(hf : Int) - 1))
                have RG' := Fact.mk (set4_3 (u := .int .i64 (-(hf : Int) - 1)) RG.out)
                have EY' := Fact.mk (HS.out.rd.low EY.out BS)
                have GR' := Fact.mk (grown_low GR.out BS)
                clear y0 y1 y2 y3 f0 f1 f2 f3 RG EY GR BS
                have RG := RG'
                have EY := EY'
                have GR := GR'
                clear RG' EY' GR'
                generalize WS.setCell ⟨wr.heap.size, 3, none⟩ (.int .i64 (-(hf : Int) - 1)) = WT at *
                have hu : unzig z4 = -(hf : Int) - 1 := by rw [UZ.out, if_pos hodd]
                rw [hu] at AX
                have WY : Fact ((⟨z1, z2, z3, -(hf : Int) - 1⟩ : GIns).Wf) := ⟨⟨⟨by show (0 : Int) ≤ (z1 : Int); omega, by show (z1 : Int) ≤ 255; omega⟩, ⟨by show (0 : Int) ≤ (z2 : Int); omega, by show (z2 : Int) ≤ 255; omega⟩, ⟨by show _ ≤ (z3 : Int); omega, by show (z3 : Int) ≤ _; omega⟩, ⟨by show _ ≤ -(hf : Int) - 1; omega, by show -(hf : Int) - 1 ≤ _; omega⟩⟩⟩
                clear hu hodd
                have SX := Fact.mk (HS.out.read EY.out GR.out)
                obtain ⟨⟨y0, y1, y2, y3⟩, -⟩ := rdv_row4 RG.out
                obtain ⟨⟨x0, x1, x2, x3⟩, f0, f1, f2, f3⟩ := rdv_row4 SX.out.row
                have ly := (Array.getElem?_eq_some_iff.1 RG.out).1
                have lx := (Array.getElem?_eq_some_iff.1 SX.out.row).1
                obtain ⟨AV, nV, cV, rfl⟩ := SX.out.slices.2.2
                have HO := Fact.mk SX.out.oI
                clear EY GR RG
                go_wp2_with (at_builtin; refine wpList_pushR rfl _ _ 30 rfl (C + 1) 38 i0 (.agg #[.int .u8 0, .int .u8 0, .int .i64 0, .int .i64 0]) 4 24 Try.underlying30 hi hz0 hz1 hz2 rfl (by decide) (by decide) encIns _ is rfl HO.out (⟨z1, z2, z3, -(hf : Int) - 1⟩ : GIns) rfl rfl (ins_oneR _) (by omega) (by omega) ?_)
                intro v' W' ho' hr'
                obtain ⟨A7, n7, c7, rfl⟩ := ho'.slice
                have row7 := row_block hr'.g SX.out.row (fun e => ho_C HO.out e)
                obtain ⟨⟨u0, u1, u2, u3⟩, e0, e1', e2', e3'⟩ := rdv_row4 row7
                have STN := Fact.mk (SX.out.grewI (⟨z1, z2, z3, -(hf : Int) - 1⟩ : GIns) ho' hr'.g)
                have HPk : Fact (Prog I insQ (k - 1 + 1) is (some rest)) := ⟨by rw [show k - 1 + 1 = k by omega]; exact HP.out⟩
                have HPN := Fact.mk (prog_step HPk.out AX.out)
                rw [AO.out] at HPN
                have hk1 : (k : Int) - 1 = ((k - 1 : Nat) : Int) := by omega
                clear y0 y1 y2 y3 x0 x1 x2 x3 f0 f1 f2 f3 ho' hr' row7 SX HP HPk
                go_wp2_with fail
                go_roundw
                case rel => exact ⟨k - 1, _, _, _, rfl, ⟨STN.out, HPN.out, by rw [List.length_append]; simp only [List.length_cons, List.length_nil]; omega, (ins_snoc HV.out WY.out)⟩⟩
                case measure => simp [intOf]; omega
              · have co : ((z4 : Int) % 2 == 1) = false := beq_eq_false_iff_ne.2 (by omega)
                go_upto_region 29 with (fail)
                have hu : unzig z4 = (hf : Int) := by rw [UZ.out, if_neg hodd]
                rw [hu] at AX
                have WY : Fact ((⟨z1, z2, z3, (hf : Int)⟩ : GIns).Wf) := ⟨⟨⟨by show (0 : Int) ≤ (z1 : Int); omega, by show (z1 : Int) ≤ 255; omega⟩, ⟨by show (0 : Int) ≤ (z2 : Int); omega, by show (z2 : Int) ≤ 255; omega⟩, ⟨by show _ ≤ (z3 : Int); omega, by show (z3 : Int) ≤ _; omega⟩, ⟨by show _ ≤ (hf : Int); omega, by show (hf : Int) ≤ _; omega⟩⟩⟩
                clear hu hodd
                have SX := Fact.mk (HS.out.read EY.out GR.out)
                obtain ⟨⟨y0, y1, y2, y3⟩, -⟩ := rdv_row4 RG.out
                obtain ⟨⟨x0, x1, x2, x3⟩, f0, f1, f2, f3⟩ := rdv_row4 SX.out.row
                have ly := (Array.getElem?_eq_some_iff.1 RG.out).1
                have lx := (Array.getElem?_eq_some_iff.1 SX.out.row).1
                obtain ⟨AV, nV, cV, rfl⟩ := SX.out.slices.2.2
                have HO := Fact.mk SX.out.oI
                clear EY GR RG
                go_wp2_with (at_builtin; refine wpList_pushR rfl _ _ 30 rfl (C + 1) 38 i0 (.agg #[.int .u8 0, .int .u8 0, .int .i64 0, .int .i64 0]) 4 24 Try.underlying30 hi hz0 hz1 hz2 rfl (by decide) (by decide) encIns _ is rfl HO.out (⟨z1, z2, z3, (hf : Int)⟩ : GIns) rfl rfl (ins_oneR _) (by omega) (by omega) ?_)
                intro v' W' ho' hr'
                obtain ⟨A7, n7, c7, rfl⟩ := ho'.slice
                have row7 := row_block hr'.g SX.out.row (fun e => ho_C HO.out e)
                obtain ⟨⟨u0, u1, u2, u3⟩, e0, e1', e2', e3'⟩ := rdv_row4 row7
                have STN := Fact.mk (SX.out.grewI (⟨z1, z2, z3, (hf : Int)⟩ : GIns) ho' hr'.g)
                have HPk : Fact (Prog I insQ (k - 1 + 1) is (some rest)) := ⟨by rw [show k - 1 + 1 = k by omega]; exact HP.out⟩
                have HPN := Fact.mk (prog_step HPk.out AX.out)
                rw [AO.out] at HPN
                have hk1 : (k : Int) - 1 = ((k - 1 : Nat) : Int) := by omega
                clear y0 y1 y2 y3 x0 x1 x2 x3 f0 f1 f2 f3 ho' hr' row7 SX HP HPk
                go_wp2_with fail
                go_roundw
                case rel => exact ⟨k - 1, _, _, _, rfl, ⟨STN.out, HPN.out, by rw [List.length_append]; simp only [List.length_cons, List.length_nil]; omega, (ins_snoc HV.out WY.out)⟩⟩
                case measure => simp [intOf]; omega
            · have e1 : ¬ (0 : Int) < (k : Int) := by omega
              have e2 : k = 0 := by omega
              have HE := Fact.mk (prog_end hst.out.2.1 (.inl e2))
              go_wp2_with fail
              go_meet
              exact ⟨vv, is, ⟨by rw [HE.out.1]; exact hst.out.1, HE.out.2, hst.out.2.2.2, by omega⟩⟩
      case rest =>
        obtain ⟨vI, is, hc⟩ := hcut
        have SI := Fact.mk hc.out.1
        have XI := Fact.mk hc.out.2.1
        have OI := Fact.mk hc.out.2.2.1
        have NI := Fact.mk hc.out.2.2.2
        clear S1
        obtain ⟨AV, cV, rfl⟩ := SI.out.oV.slice2
        obtain ⟨AB, cB, rfl⟩ := SI.out.oB.slice2
        obtain ⟨AI, cI, rfl⟩ := SI.out.oI.slice2
        have hq : l.length = q0 := by
          obtain ⟨_, A, c, e, _⟩ := H.out
          injection e with _ e2 _
          exact e2.symm
        have hq9 : q0 ≤ 9223372036854775807 := by have := H.out.1; omega
        obtain ⟨⟨k0, k1, k2, k3⟩, -⟩ := rdv_row4 SI.out.row
        obtain ⟨⟨x0, x1, x2, x3⟩, f0, f1, f2, f3⟩ := rdv_row4 SI.out.res
        have lC := (Array.getElem?_eq_some_iff.1 SI.out.row).1
        have lX := (Array.getElem?_eq_some_iff.1 SI.out.res).1
        have ZX := Fact.mk (store4 SI.out.res (.string ⟨#[]⟩) (.slice none 0 0) (.slice none 0 0) (.slice none 0 0))
        have ZB := Fact.mk ((((SI.out.bel.setCell (p := ⟨w.heap.size, 0, none⟩) (Nat.le_refl _) (.string ⟨#[]⟩)).setCell (p := ⟨w.heap.size, 1, none⟩) (Nat.le_refl _) (.slice none 0 0)).setCell (p := ⟨w.heap.size, 2, none⟩) (Nat.le_refl _) (.slice none 0 0)).setCell (p := ⟨w.heap.size, 3, none⟩) (Nat.le_refl _) (.slice none 0 0))
        obtain ⟨o, ho⟩ : ∃ o, I.map (·.2) = o := ⟨_, rfl⟩
        rw [ho] at EO SI
        have cb := SI.out.cells
        have HQ := Fact.mk hq
        cases o with
        | none =>
          have HN : Fact (readB l = none) := ⟨by
            have h0 := EO.out
            have hc : codeQ l = none := by
              cases hc : codeQ l with
              | none => rfl
              | some q => rw [hc] at h0; cases h0
            rw [← refRead_eq BY.out.1 (fun c r h => by rw [hc] at h; cases h)]
            unfold refReadB
            rw [hc]
            rfl⟩
          clear ho hq k0 k1 k2 k3
          go_wp2
          exact bodyPost_ret (res_cell_tmpR Try.results31 _ _ w.heap.size rfl ZX.out Try.underlying32 rfl Try.sizeCodeR) rfl (read_no ZB.out HN.out)
        | some rest =>
          obtain ⟨_, at_, bad, ha, hr, hbd, hdr⟩ := SI.out.rd
          obtain ⟨-, c1, -⟩ := (row3 hr).1
          have HC : Fact (codeQ l = some (⟨nm, xs, ks, is⟩, rest)) := ⟨by
            have := EO.out
            cases hc : codeQ l with
            | none => rw [hc] at this; cases this
            | some q =>
              obtain ⟨d, r'⟩ := q
              rw [hc] at this
              injection this with this
              have e := EC.out xs ks is G1.out XV.out XB.out XI.out d r' hc
              rw [e]
              exact congrArg some (congrArg (Prod.mk _) this)⟩
          have WF : Fact ((⟨nm, xs, ks, is⟩ : GCode).Wf) := ⟨⟨OV.out.wf, OB.out, OI.out⟩⟩
          have HRE : Fact (readB l = if rest = [] ∧ rightB ⟨nm, xs, ks, is⟩ = true ∧ codeB ⟨nm, xs, ks, is⟩ = l then some ⟨nm, xs, ks, is⟩ else none) := ⟨by
            rw [← refRead_eq BY.out.1 (fun c r h => by rw [HC.out] at h; injection h with h; injection h with h _; rw [← h]; exact WF.out)]
            unfold refReadB
            rw [HC.out]
            rfl⟩
          have hlen : rest.length + at_ = l.length := by rw [← hdr, List.length_drop]; omega
          have HLEN := Fact.mk hlen
          by_cases h0 : rest = []
          · subst h0
            have e1 : ((at_ : Int) != (q0 : Int)) = false := by
              have : at_ = q0 := by rw [← hq, ← hlen]; simp
              rw [this]; exact bne_self_eq_false _
            have RG := Fact.mk (rBytes_any ⟨nm, xs, ks, is⟩ WF.out (.slice AV xs.length cV) (.slice AB ks.length cB) (.slice AI is.length cI) wc ⟨SI.out.oV.rd encVar_len, SI.out.oB.rd oneU8_len, SI.out.oI.rd encIns_len⟩)
            clear ho hq hr hbd hdr hlen
            go_wp2_with fail
            refine RG.out.mono ?_
            rintro e W8 ⟨hb8, hp8⟩
            have S8 := Fact.mk (SI.out.below hb8)
            have HL8 := Fact.mk (H.out.below (SI.out.bel.trans (hb8.mono SI.out.bel.size)))
            clear hb8 RG k0 k1 k2 k3 x0 x1 x2 x3 f0 f1 f2 f3 cb c1 ZX ZB
            obtain ⟨⟨k0, k1, k2, k3⟩, -⟩ := rdv_row4 S8.out.row
            obtain ⟨⟨x0, x1, x2, x3⟩, f0, f1, f2, f3⟩ := rdv_row4 S8.out.res
            cases hR : rightB ⟨nm, xs, ks, is⟩ with
            | false =>
              rw [hR] at hp8
              obtain rfl := hp8
              have HN : Fact (readB l = none) := ⟨by rw [HRE.out, hR]; simp⟩
              have ZX := Fact.mk (store4 S8.out.res (.string ⟨#[]⟩) (.slice none 0 0) (.slice none 0 0) (.slice none 0 0))
              have ZB := Fact.mk ((((S8.out.bel.setCell (p := ⟨w.heap.size, 0, none⟩) (Nat.le_refl _) (.string ⟨#[]⟩)).setCell (p := ⟨w.heap.size, 1, none⟩) (Nat.le_refl _) (.slice none 0 0)).setCell (p := ⟨w.heap.size, 2, none⟩) (Nat.le_refl _) (.slice none 0 0)).setCell (p := ⟨w.heap.size, 3, none⟩) (Nat.le_refl _) (.slice none 0 0))
              clear hR
              go_wp2
              exact bodyPost_ret (res_cell_tmpR Try.results31 _ _ w.heap.size rfl ZX.out Try.underlying32 rfl Try.sizeCodeR) rfl (read_no ZB.out HN.out)
            | true =>
              rw [hR] at hp8
              obtain ⟨v9, rfl, r9⟩ := hp8
              have HRT := Fact.mk hR
              obtain ⟨A9, n9, c9, rfl⟩ := rdr_slice r9
              have s1 := str_back0 r9
              have s2 := str_back0 HL8.out
              obtain ⟨sa, hsa⟩ : ∃ s, strOfNums (codeB ⟨nm, xs, ks, is⟩) = s := ⟨_, rfl⟩
              obtain ⟨sb, hsb⟩ : ∃ s, strOfNums l = s := ⟨_, rfl⟩
              rw [hsa] at s1
              rw [hsb] at s2
              have HSE : Fact ((sa = sb) ↔ codeB ⟨nm, xs, ks, is⟩ = l) := ⟨by rw [← hsa, ← hsb]; exact str_inj code_bys BY.out.1⟩
              clear r9 hsa hsb hR
              by_cases he : codeB ⟨nm, xs, ks, is⟩ = l
              · obtain rfl := HSE.out.2 he
                have e5 : (sa.toList == sa.toList) = true := beq_self_eq_true _
                have e6 : (sa.toList != sa.toList) = false := bne_self_eq_false _
                have HN : Fact (readB l = some ⟨nm, xs, ks, is⟩) := ⟨by rw [HRE.out, if_pos ⟨by trivial, HRT.out, he⟩]⟩
                clear he
                have ZX := Fact.mk (store4 S8.out.res (.string nm) (.slice AV xs.length cV) (.slice AB ks.length cB) (.slice AI is.length cI))
                have ZB := Fact.mk ((((S8.out.bel.setCell (p := ⟨w.heap.size, 0, none⟩) (Nat.le_refl _) (.string nm)).setCell (p := ⟨w.heap.size, 1, none⟩) (Nat.le_refl _) (.slice AV xs.length cV)).setCell (p := ⟨w.heap.size, 2, none⟩) (Nat.le_refl _) (.slice AB ks.length cB)).setCell (p := ⟨w.heap.size, 3, none⟩) (Nat.le_refl _) (.slice AI is.length cI))
                have t1 := S8.out.res
                have t2 := set4_0 (u := .string nm) t1
                have t3 := set4_1 (u := .slice AV xs.length cV) t2
                have t4 := set4_2 (u := .slice AB ks.length cB) t3
                have OX : Fact (CodeRd _ ⟨nm, xs, ks, is⟩ _ _ _) := ⟨⟨((((S8.out.oV.set t1 (by decide) 0 (.string nm)).set t2 (by decide) 1 (.slice AV xs.length cV)).set t3 (by decide) 2 (.slice AB ks.length cB)).set t4 (by decide) 3 (.slice AI is.length cI)).rd encVar_len, ((((S8.out.oB.set t1 (by decide) 0 (.string nm)).set t2 (by decide) 1 (.slice AV xs.length cV)).set t3 (by decide) 2 (.slice AB ks.length cB)).set t4 (by decide) 3 (.slice AI is.length cI)).rd oneU8_len, ((((S8.out.oI.set t1 (by decide) 0 (.string nm)).set t2 (by decide) 1 (.slice AV xs.length cV)).set t3 (by decide) 2 (.slice AB ks.length cB)).set t4 (by decide) 3 (.slice AI is.length cI)).rd encIns_len⟩⟩
                clear t1 t2 t3 t4
                go_wp2
                exact bodyPost_ret (res_cell_tmpR Try.results31 _ _ w.heap.size rfl ZX.out Try.underlying32 rfl Try.sizeCodeR) rfl (read_yes ZB.out HN.out OX.out)
              · have hne : ¬ sa.toList = sb.toList := fun e => he (HSE.out.1 (sc_name e))
                have e5 : (sa.toList == sb.toList) = false := beq_eq_false_iff_ne.2 hne
                have e6 : (sa.toList != sb.toList) = true := bne_iff_ne.2 hne
                have HN : Fact (readB l = none) := ⟨by rw [HRE.out, if_neg (fun h => he h.2.2)]⟩
                have ZX := Fact.mk (store4 S8.out.res (.string ⟨#[]⟩) (.slice none 0 0) (.slice none 0 0) (.slice none 0 0))
                have ZB := Fact.mk ((((S8.out.bel.setCell (p := ⟨w.heap.size, 0, none⟩) (Nat.le_refl _) (.string ⟨#[]⟩)).setCell (p := ⟨w.heap.size, 1, none⟩) (Nat.le_refl _) (.slice none 0 0)).setCell (p := ⟨w.heap.size, 2, none⟩) (Nat.le_refl _) (.slice none 0 0)).setCell (p := ⟨w.heap.size, 3, none⟩) (Nat.le_refl _) (.slice none 0 0))
                clear he hne
                go_wp2
                exact bodyPost_ret (res_cell_tmpR Try.results31 _ _ w.heap.size rfl ZX.out Try.underlying32 rfl Try.sizeCodeR) rfl (read_no ZB.out HN.out)
          · have hpos : 0 < rest.length := List.length_pos_iff.2 h0
            have e1 : ((at_ : Int) != (q0 : Int)) = true := bne_iff_ne.2 (by omega)
            have HN : Fact (readB l = none) := ⟨by rw [HRE.out, if_neg (fun h => h0 h.1)]⟩
            clear ho hq hr hbd hdr hlen h0 hpos k0 k1 k2 k3
            go_wp2
            exact bodyPost_ret (res_cell_tmpR Try.results31 _ _ w.heap.size rfl ZX.out Try.underlying32 rfl Try.sizeCodeR) rfl (read_no ZB.out HN.out)
end Go.Proofs.Ythiapebodpkamaa

