/- blockhouselaw16.played, with the closure of K. -/
import Derived.Test.YtiogpainajokkaaPlyM
namespace Go.Proofs.Ytiogpainajokkaa
open Go.RowKit
set_option maxHeartbeats 8000000 in
set_option maxRecDepth 100000 in
theorem plyK_any (c : GCode) (hw : c.Wf) (hn : (c.ins.length : Int) < 9223372036854775807) (ls : List (Value × Int)) (vs bs is lv q1 q2 q3 : Value) (w : World) (h : CodeRd w c vs bs is) (hl : Rd encGo 2 w lv ls) (hls : ∀ a ∈ ls, GoOk w a)
    (ht : (spotsB c).2.2 = 0 → ∀ (W : World) (s s' : GPlant) (ins out : List Int) (n : Nat) (now e : Int) (V B V' B' I O : Value), Told w W c s s' ins out n now e V B V' B' I O →
      Calls Try.prog 23 #[.agg #[V, B], .agg #[V', B'], I, O, .int .i64 n, .int .i64 now, .int .i64 e, q1, q2, q3] W fun e w' => e = .returned (.bool true) ∧ Below W.heap.size W w') :
    Calls Try.prog 14 #[.agg #[.string c.name, vs, bs, is], lv, .func (.func 23) #[] #[q1, q2, q3]] w fun e w' => e = .returned (.bool true) ∧ Below w.heap.size w w' := by
  obtain ⟨A1, c1, rfl⟩ : ∃ A c', vs = .slice A c.vars.length c' := by obtain ⟨_, A, c', h, _⟩ := h.vars; exact ⟨A, c', h⟩
  obtain ⟨A2, c2, rfl⟩ : ∃ A c', bs = .slice A c.blocks.length c' := by obtain ⟨_, A, c', h, _⟩ := h.blocks; exact ⟨A, c', h⟩
  obtain ⟨A3, c3, rfl⟩ : ∃ A c', is = .slice A c.ins.length c' := by obtain ⟨_, A, c', h, _⟩ := h.ins; exact ⟨A, c', h⟩
  obtain ⟨AL, cL, rfl⟩ : ∃ A c', lv = .slice A ls.length c' := by obtain ⟨_, A, c', h, _⟩ := hl; exact ⟨A, c', h⟩
  obtain ⟨b1, r1, z1⟩ := one_block w (.cells #[.string c.name, .slice A1 c.vars.length c1, .slice A2 c.blocks.length c2, .slice A3 c.ins.length c3] 26)
  have B2 := Fact.mk b1
  have R2 := Fact.mk r1
  have L2 : w.heap.size < (w.alloc (.cells #[.string c.name, .slice A1 c.vars.length c1, .slice A2 c.blocks.length c2, .slice A3 c.ins.length c3] 26)).heap.size := by rw [z1]; omega
  have HL := Fact.mk hl
  have HLS := Fact.mk hls
  have HT := Fact.mk ht
  have NW := Fact.mk (fun W (hW : Below w.heap.size w W) => snew_any c hw hn _ _ _ 2001 W (h.below hW))
  have FT := Fact.mk (fun W (hW : Below w.heap.size w W) v l (hv : Rd oneI64 1 W v l) (h1 : c.vars.length ≤ 100000) => fit_any c l _ _ _ v W (h.below hW) hv h1)
  have SC := Fact.mk (fun W (hW : Below w.heap.size w W) s V B v l now (hp : PlRd W s V B) (hv : Rd oneI64 1 W v l) (h1 : s.vars.length ≤ 100000) (h2 : s.blocks.length ≤ 100000) => scan_any c hw hn s l now _ _ _ V B v W (h.below hW) hp hv h1 h2)
  obtain ⟨er, her⟩ : ∃ er, checkB c 2001 = er := ⟨_, rfl⟩
  have HN : newP c 2001 = if er = 0 then (firstB c, 0) else (⟨[], []⟩, er) := by unfold newP; rw [her]
  have HE := Fact.mk her
  clear b1 r1 z1 hl hls ht h hw hn her
  go_enter Try.func14, Try.ntmps14
  go_upto_region 1 with (fail)
  generalize (w.alloc (.cells #[.string c.name, .slice A1 c.vars.length c1, .slice A2 c.blocks.length c2, .slice A3 c.ins.length c3] 26)) = w2 at *
  obtain ⟨k0, k1, k2, k3⟩ : w2.cell? ⟨w.heap.size, 0, none⟩ = some (.string c.name) ∧ w2.cell? ⟨w.heap.size, 1, none⟩ = some (.slice A1 c.vars.length c1) ∧ w2.cell? ⟨w.heap.size, 2, none⟩ = some (.slice A2 c.blocks.length c2) ∧ w2.cell? ⟨w.heap.size, 3, none⟩ = some (.slice A3 c.ins.length c3) := ⟨cell_of_row _ _ 0 _ _ _ R2.out, cell_of_row _ _ 1 _ _ _ R2.out, cell_of_row _ _ 2 _ _ _ R2.out, cell_of_row _ _ 3 _ _ _ R2.out⟩
  go_wp2_with fail
  refine (NW.out _ B2.out).mono ?_
  rintro e W3 ⟨V, B, rfl, ho3, hb3⟩
  obtain ⟨AV, nV, cV, rfl⟩ := ho3.v.slice
  obtain ⟨AB, nB, cB, rfl⟩ := ho3.b.slice
  obtain ⟨b4, r4, z4⟩ := one_block W3 (.cells #[.slice AV nV cV, .slice AB nB cB] 34)
  have B4 := (B2.out.trans (hb3.mono B2.out.size)).trans (b4.mono (B2.out.trans (hb3.mono B2.out.size)).size)
  by_cases h0 : er = 0
  · rw [HN, if_pos h0] at ho3 ⊢
    subst h0
    have S0 := Fact.mk (check_spots HE.out)
    have ST : Fact (PlySt w (W3.alloc (.cells #[.slice AV nV cV, .slice AB nB cB] 34)) w.heap.size W3.heap.size c (.slice A1 c.vars.length c1) (.slice A2 c.blocks.length c2) (.slice A3 c.ins.length c3) (firstB c) 0 0 (.slice AV nV cV) (.slice AB nB cB)) := ⟨⟨B4, ((hb3.trans (b4.mono hb3.size)).block _ L2).trans R2.out, r4, (B2.out.trans (hb3.mono B2.out.size)).size, Nat.ne_of_lt (Nat.lt_of_lt_of_le L2 hb3.size), (ho3.below b4).lower B2.out.size, first_fits S0.out, Int.le_refl _, Int.le_refl _⟩⟩
    clear k0 k1 k2 k3 b4 r4 z4 ho3 hb3 B4 HN HE NW L2 R2 B2
    go_upto_region 2 with (fail)
    generalize W3.alloc (.cells #[.slice AV nV cV, .slice AB nB cB] 34) = w4 at *
    generalize W3.heap.size = P at *
    obtain ⟨X, hX⟩ : ∃ X, w.heap.size = X := ⟨_, rfl⟩
    have HX := Fact.mk hX
    rw [hX] at ST ⊢
    clear hX
    go_wp2_with fail
    go_loopw [9, 10] (fun sn i wr => ∃ (k : Nat) (now : Int) (s : GPlant) (V B : Value), k ≤ ls.length ∧ k ≤ 20 ∧ i = .int .i64 k ∧ sn = .int .i64 now ∧ Fact (PlySt w wr X P c (.slice A1 c.vars.length c1) (.slice A2 c.blocks.length c2) (.slice A3 c.ins.length c3) s now k V B)) (fun _ i _ => 20 - (intOf i).toNat)
    case atStart => exact ⟨0, 0, _, _, _, Nat.zero_le _, Nat.zero_le _, rfl, rfl, ST⟩
    case round =>
      obtain ⟨k, now, s, V, B, hk, hk20, rfl, rfl, HS⟩ := hrel
      clear ST
      by_cases hlt : k < ls.length
      · by_cases h20 : k < 20
        · obtain ⟨bl, ol, cl', e, g1, g2⟩ := (HL.out.below HS.out.bel).atGo k hlt
          cases e
          obtain ⟨⟨vx, L⟩, hx⟩ : ∃ x, ls[k] = x := ⟨_, rfl⟩
          have hok := HLS.out _ (List.getElem_mem hlt)
          rw [hx] at g1 g2 hok
          obtain ⟨⟨l, hl1⟩, L1, L3⟩ := hok
          obtain ⟨Ax, nx, cx, rfl⟩ : ∃ A n c', vx = .slice A n c' := by obtain ⟨_, A, c', h, _⟩ := hl1; exact ⟨A, _, c', h⟩
          have RL := Fact.mk (hl1.below HS.out.bel)
          have i1 : (k : Int) < (ls.length : Int) := by omega
          have i2 : (k : Int) < 20 := by omega
          obtain ⟨AV', nV', cV', rfl⟩ := HS.out.own.v.slice
          obtain ⟨AB', nB', cB', rfl⟩ := HS.out.own.b.slice
          have NN : Fact (0 ≤ now + L ∧ now + L ≤ 65535 * ((k + 1 : Nat) : Int) ∧ now + L ≤ 1125899906842624 ∧ k + 1 ≤ ls.length ∧ k + 1 ≤ 20) := ⟨by have := HS.out.n1; have := HS.out.n2; omega⟩
          have ew : IntKind.i64.wrap (now + L) = now + L := by
            have h1 := NN.out.1
            have h2 := NN.out.2.2.1
            exact i64_small h1 (by omega)
          have eL : IntKind.i64.wrap L = L := i64_small L1 (by omega)
          obtain ⟨m, hm⟩ : ∃ m, now + L = m := ⟨_, rfl⟩
          rw [hm] at NN ew
          have lb := World.block_lt_of_cell? wr _ g1
          obtain ⟨k0, k1, k2, k3⟩ : wr.cell? ⟨X, 0, none⟩ = some (.string c.name) ∧ wr.cell? ⟨X, 1, none⟩ = some (.slice A1 c.vars.length c1) ∧ wr.cell? ⟨X, 2, none⟩ = some (.slice A2 c.blocks.length c2) ∧ wr.cell? ⟨X, 3, none⟩ = some (.slice A3 c.ins.length c3) := ⟨cell_of_row _ _ 0 _ _ _ HS.out.code, cell_of_row _ _ 1 _ _ _ HS.out.code, cell_of_row _ _ 2 _ _ _ HS.out.code, cell_of_row _ _ 3 _ _ _ HS.out.code⟩
          have lX : X < wr.heap.size := World.block_lt_of_cell? wr _ k0
          have hsh := fits_short S0.out HS.out.fits
          have SH := Fact.mk hsh
          clear hx hl1 L1 L3 hk hk20 hlt h20 hsh
          go_upto_region 9 with (fail)
          refine still_tail 6 (by kernel_rfl) (by kernel_rfl) (fun W => Below wr.heap.size wr W) (Below.refl _ _).drew ?_
          rintro W hbW
          replace g1 := cell_below hbW _ _ g1
          replace k0 := cell_below hbW _ _ k0
          replace k1 := cell_below hbW _ _ k1
          replace k2 := cell_below hbW _ _ k2
          replace k3 := cell_below hbW _ _ k3
          replace lb := Nat.lt_of_lt_of_le lb hbW.size
          replace lX := Nat.lt_of_lt_of_le lX hbW.size
          have BW := Fact.mk hbW
          clear g2 hbW
          simp only [List.take_succ_cons, List.take_zero, List.drop_succ_cons, List.drop_zero]
          repeat still_step
          refine wpStill_nil ?_
          clear g1 lb
          go_wp2_with fail
          refine (FT.out _ (HS.out.bel.trans (BW.out.mono HS.out.bel.size)) _ l (RL.out.below BW.out) SH.out.2.2).mono ?_
          rintro e W5 ⟨I, rfl, hoI, hb5⟩
          obtain ⟨AI, nI, cI, rfl⟩ := hoI.slice
          have B5 := Fact.mk (BW.out.trans (hb5.mono BW.out.size))
          have RI := Fact.mk (hoI.rd oneI64_len)
          replace k0 := cell_below hb5 _ _ k0
          replace k1 := cell_below hb5 _ _ k1
          replace k2 := cell_below hb5 _ _ k2
          replace k3 := cell_below hb5 _ _ k3
          replace lX := Nat.lt_of_lt_of_le lX hb5.size
          have rP := (B5.out.block P (Array.getElem?_eq_some_iff.1 HS.out.row).1).trans HS.out.row
          have j0 := cell_of_row _ _ 0 _ _ _ rP
          have j1 := cell_of_row _ _ 1 _ _ _ rP
          have lP := World.block_lt_of_cell? W5 _ j0
          clear hb5 BW RL hoI rP
          have PS := Fact.mk ((HS.out.own.below B5.out).rd)
          obtain ⟨⟨s', out, n, er⟩, hsc⟩ : ∃ r, scanB c s (fitB c.vars l) m = r := ⟨_, rfl⟩
          have OK := Fact.mk (scan_ok S0.out HS.out.fits l NN.out.1 NN.out.2.2.1)
          have CS := Fact.mk (SC.out W5 (HS.out.bel.trans (B5.out.mono HS.out.bel.size)) s _ _ _ (fitB c.vars l) m PS.out RI.out SH.out.1 SH.out.2.1)
          rw [hsc] at OK CS
          have HSC := Fact.mk hsc
          clear hsc
          go_wp2_with fail
          refine CS.out.mono ?_
          rintro e W6 ⟨V6, B6, O6, rfl, ho6, hO6, hb6⟩
          obtain ⟨AV6, nV6, cV6, rfl⟩ := ho6.v.slice
          obtain ⟨AB6, nB6, cB6, rfl⟩ := ho6.b.slice
          obtain ⟨AO6, nO6, cO6, rfl⟩ := hO6.slice
          obtain ⟨b7, r7, z7⟩ := one_block W6 (.cells #[.slice AV6 nV6 cV6, .slice AB6 nB6 cB6] 34)
          have h67 := hb6.trans (b7.mono hb6.size)
          have B7 := Fact.mk (B5.out.trans (h67.mono B5.out.size))
          have PO := Fact.mk ((ho6.below b7).lower B5.out.size)
          have TL : Fact (Told w (W6.alloc (.cells #[.slice AV6 nV6 cV6, .slice AB6 nB6 cB6] 34)) c s s' (fitB c.vars l) out n m er (.slice AV' nV' cV') (.slice AB' nB' cB') (.slice AV6 nV6 cV6) (.slice AB6 nB6 cB6) (.slice AI nI cI) (.slice AO6 nO6 cO6)) := ⟨⟨HS.out.bel.trans (B7.out.mono HS.out.bel.size), HS.out.fits, NN.out.1, NN.out.2.2.1, ⟨l, rfl⟩, HSC.out, PS.out.below h67, (ho6.below b7).rd, RI.out.below h67, (hO6.below b7).rd oneI64_len⟩⟩
          have R7 := Fact.mk r7
          have l7 : W6.heap.size < (W6.alloc (.cells #[.slice AV6 nV6 cV6, .slice AB6 nB6 cB6] 34)).heap.size := by rw [z7]; omega
          have CT := Fact.mk (HT.out S0.out _ _ _ _ _ _ _ _ _ _ _ _ _ _ TL.out)
          replace j0 := cell_below h67 _ _ j0
          replace j1 := cell_below h67 _ _ j1
          replace lP := Nat.lt_of_lt_of_le lP h67.size
          have t0 := cell_of_row _ _ 0 _ _ _ r7
          have t1 := cell_of_row _ _ 1 _ _ _ r7
          clear k0 k1 k2 k3 lX ho6 hO6 b7 r7 z7 hb6 h67 CS RI PS TL B5 HSC
          go_upto_region 11 with (fail)
          generalize W6.alloc (.cells #[.slice AV6 nV6 cV6, .slice AB6 nB6 cB6] 34) = w7 at *
          go_wp2_with fail
          refine CT.out.mono ?_
          rintro e W8 ⟨rfl, hb8⟩
          have B8 := Fact.mk (B7.out.trans (hb8.mono B7.out.size))
          have STN := Fact.mk (HS.out.next B8.out (PO.out.below hb8) OK.out.fits NN.out.1 NN.out.2.1)
          have p8 := (B8.out.block P (Array.getElem?_eq_some_iff.1 HS.out.row).1).trans HS.out.row
          have u0 := cell_of_row _ _ 0 _ _ _ p8
          have u1 := cell_of_row _ _ 1 _ _ _ p8
          have v0 := frozen_of_row _ _ 0 _ _ p8
          have v1 := frozen_of_row _ _ 1 _ _ p8
          have l8 := World.block_lt_of_cell? W8 _ u0
          replace t0 := cell_below hb8 _ _ t0
          replace t1 := cell_below hb8 _ _ t1
          replace l7 := Nat.lt_of_lt_of_le l7 hb8.size
          clear j0 j1 lP CT hb8 B7 B8 p8 PO OK HS R7
          go_wp2_with fail
          go_roundw
          case rel => exact ⟨k + 1, m, s', _, _, NN.out.2.2.2.1, NN.out.2.2.2.2, by go_num, rfl, STN⟩
          case measure => simp [intOf]; omega
        · obtain rfl : k = 20 := by omega
          have i1 : ((20 : Nat) : Int) < (ls.length : Int) := by omega
          have HB := Fact.mk HS.out.bel
          clear HS SC FT HT
          go_wp2_with fail
          go_ret
          exact ⟨rfl, HB.out⟩
      · obtain rfl : k = ls.length := by omega
        have HB := Fact.mk HS.out.bel
        clear HS SC FT HT
        go_wp2_with fail
        go_ret
        exact ⟨rfl, HB.out⟩
  · rw [HN, if_neg h0]
    have e1 : (er != 0) = true := bne_iff_ne.2 h0
    have BF := Fact.mk B4
    clear k0 k1 k2 k3 b4 r4 z4 ho3 hb3 B4 HN h0 HE NW
    go_wp2
    go_ret
    exact ⟨rfl, BF.out⟩
end Go.Proofs.Ytiogpainajokkaa

