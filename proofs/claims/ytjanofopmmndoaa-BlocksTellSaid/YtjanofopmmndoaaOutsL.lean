/- BlocksOuts: the walk. -/
import Derived.Test.YtjanofopmmndoaaPM
import Derived.Test.YtjanofopmmndoaaOpenM
import Derived.StillTailTactics
import Derived.Test.YtjanofopmmndoaaHeadM
import Derived.Deep.RegionWith
import Derived.Deep.DeepCutAuto
namespace Go.Proofs.Ytjanofopmmndoaa
open Go.RowKit
theorem okIns_at {ts xs : List Int} (h : okIns ts xs = true) (m : Nat) (h1 : m < ts.length) (h2 : m < xs.length) : inR ts[m] xs[m] = true := by
  induction ts generalizing xs m with
  | nil => exact absurd h1 (by simp)
  | cons t ts ih =>
    cases xs with
    | nil => exact absurd h2 (by simp)
    | cons x xs =>
      simp only [okIns, Bool.and_eq_true] at h
      cases m with
      | zero => exact h.1
      | succ m => exact ih h.2 m (by simpa using h1) (by simpa using h2)
theorem Rd.atGo {w : World} {v : Value} {xs : List (Value × Int)} (h : Rd encGo 2 w v xs) (i : Nat) (hi : i < xs.length) : ∃ b off c, v = .slice (some ⟨b, off, none⟩) xs.length c ∧ w.cell? ⟨b, off + i * 2, none⟩ = some xs[i].1 ∧ w.cell? ⟨b, off + i * 2 + 1, none⟩ = some (.int .u16 xs[i].2) := by
  obtain ⟨h0, A, c, rfl, h2, h4, h3⟩ := h
  obtain ⟨b, off, rfl, hc⟩ := h3 (by omega)
  exact ⟨b, off, c, rfl, hc i hi 0 _ rfl, hc i hi 1 _ rfl⟩
theorem Rd.cut {w : World} {A : Option Addr} {n c : Nat} {xs : List Int} (h : Rd oneI64 1 w (.slice A n c) xs) : n = xs.length ∧ Rd oneI64 1 w (.slice A (min n 8) c) (xs.take 8) := by
  obtain ⟨h0, A', c', e, h2, h4, h3⟩ := h
  cases e
  refine ⟨rfl, by simp; omega, A, c, by rw [List.length_take, Nat.min_comm], by simp; omega, h4, fun hp => ?_⟩
  have hp' : 0 < xs.length := by simp at hp; omega
  obtain ⟨b, off, e, hc⟩ := h3 hp'
  refine ⟨b, off, e, fun j hj i u hu => hc j (by simp at hj; omega) i u ?_⟩
  rw [List.getElem_take] at hu
  exact hu
theorem below_drw (w : World) : Below w.heap.size w w.drew := ⟨rfl, rfl, rfl, Nat.le_refl _, fun _ _ => rfl⟩
theorem below_cl {a w w' : World} (h : Below a.heap.size a w) (hb : Below w.heap.size w w') : Below a.heap.size a w' := h.trans (hb.mono h.size)
def OutMid (W2 : World) (V : Nat) (b : GBlock) (wx : World) : Prop := BlkAt wx V b ∧ W2.grownBy wx (some V)
structure OutsSt (w wr : World) (V : Nat) (vp : Value) (k0 : Int) (now : Int) (k : Nat) : Prop where
  blk : ∃ b, BlkAt wr V b ∧ rightBlk b = true ∧ b.kind = k0
  pins : Rd oneU8 1 wr vp (pinsOut k0)
  pne : vp.ownBlock ≠ some V
  bel : Below w.heap.size w wr
  lo : w.heap.size ≤ V
  n1 : 0 ≤ now
  n2 : now ≤ 65535 * (k : Int)
set_option maxRecDepth 100000 in
set_option maxHeartbeats 16000000 in
theorem outsl_any (awk : ∀ w, Calls Try.prog 20 #[] w fun e w' => e = .returned (.bool true) ∧ Below w.heap.size w w') (b0 : GBlock) (ls : List (Value × Int)) (vl : Value) (w : World) (hl : Rd encGo 2 w vl ls) (hls : ∀ a ∈ ls, GoOk w a) : Calls Try.prog 8 #[vBlk b0, vl] w fun e w' => e = .returned (.bool true) ∧ Below w.heap.size w w' := by
  have hrr := rblk_any b0
  have hoo := outs_any b0
  obtain ⟨Al, cl, rfl, l0⟩ : ∃ A c, vl = .slice A ls.length c ∧ ls.length ≤ 9223372036854775807 := by
    obtain ⟨h0, A, c, e, _⟩ := hl
    exact ⟨A, c, e, h0⟩
  have HL := Fact.mk hl
  have HLS := Fact.mk hls
  clear hl hls
  obtain ⟨h1, h2, h3⟩ := one_block w (Obj.cells #[.int .u8 b0.kind, .bool b0.w0, .bool b0.w1, .bool b0.ran, .bool b0.going, .int .i64 b0.frm, .int .i64 b0.et, .int .i64 b0.cv, .bool b0.q, .bool b0.p] 25)
  have HB0 := Fact.mk h1
  have HK0 : Fact (BlkAt (w.alloc (Obj.cells #[.int .u8 b0.kind, .bool b0.w0, .bool b0.w1, .bool b0.ran, .bool b0.going, .int .i64 b0.frm, .int .i64 b0.et, .int .i64 b0.cv, .bool b0.q, .bool b0.p] 25)) w.heap.size b0) := ⟨h2⟩
  clear h1 h2 h3
  unfold vBlk at hrr hoo ⊢
  go_enter Try.func8, Try.ntmps8
  go_wp2_with fail
  refine (hrr _).mono ?_
  rintro e W1 ⟨rfl, hb1⟩
  have BK1 := Fact.mk (HK0.out.below hb1)
  have HB := Fact.mk (HB0.out.trans (hb1.mono HB0.out.size))
  have HS : Fact (w.heap.size < W1.heap.size) := ⟨BK1.out.lt⟩
  clear hb1 hrr HK0 HB0
  obtain ⟨d0, d1, d2, d3, d4, d5, d6, d7, d8, d9, -, -, -, -, -, -, -, -, -, -⟩ := row10 BK1.out
  cases hR : rightBlk b0 with
  | false =>
    have he : outsB b0 = [] := by simp [outsB, hR]
    clear hR
    go_wp2_with fail
    refine (hoo _).mono ?_
    rintro e W2 ⟨v, rfl, ho, hb2, -⟩
    rw [he] at ho
    obtain ⟨lo0, A, c, rfl, -⟩ := ho
    have HB2 := Fact.mk (HB.out.trans (hb2.mono HB.out.size))
    clear hb2 hoo he d0 d1 d2 d3 d4 d5 d6 d7 d8 d9
    go_wp2_with fail
    refine (awk _).mono ?_
    rintro e W5 ⟨rfl, hb5⟩
    have B5 := Fact.mk (HB2.out.trans (hb5.mono HB2.out.size))
    clear hb5
    go_wp2_with fail
    go_ret
    exact ⟨rfl, B5.out⟩
  | true =>
    have HR := Fact.mk hR
    clear hR hoo
    go_wp2_with fail
    refine (pins_any _ _).mono ?_
    rintro e W2 ⟨v1, v2, rfl, -, ho2, hb2⟩
    have hp2 := ho2.rd oneU8_len
    obtain ⟨Ap, cp, rfl⟩ := ho2.slice2
    have hpne : (Value.slice Ap (pinsOut b0.kind).length cp).ownBlock ≠ some w.heap.size := fun e => by
      have := (World.ownsRow.lt ho2 _ e).1
      have := HS.out
      omega
    have ST : Fact (OutsSt w W2 w.heap.size (.slice Ap (pinsOut b0.kind).length cp) b0.kind 0 0) := ⟨⟨⟨b0, BK1.out.below hb2, HR.out, rfl⟩, hp2, hpne, HB.out.trans (hb2.mono HB.out.size), Nat.le_refl _, by omega, by omega⟩⟩
    have hpl : (pinsOut b0.kind).length ≤ 9 := by
      have := okIns_len (outs_in HR.out)
      rw [this]
      unfold outsB outsK
      repeat' split
      all_goals simp
    clear ho2 hp2 hpne hb2 d0 d1 d2 d3 d4 d5 d6 d7 d8 d9 HB BK1 HS
    go_wp2_with fail
    go_loopw [7, 8] (fun sn i wr => ∃ (k : Nat) (now : Int), k ≤ ls.length + 1 ∧ k ≤ 41 ∧ i = .int .i64 k ∧ sn = .int .i64 now ∧ Fact (OutsSt w wr w.heap.size (.slice Ap (pinsOut b0.kind).length cp) b0.kind now k)) (fun _ i _ => 41 - (intOf i).toNat)
    case atStart => exact ⟨0, 0, by omega, by omega, rfl, rfl, ST⟩
    case round =>
      obtain ⟨k, now, hk, hk6, rfl, rfl, hst⟩ := hrel
      by_cases hlt : k ≤ ls.length
      · by_cases h60 : k ≤ 40
        · obtain ⟨b, hblk, hright, hkind⟩ := hst.out.blk
          have hoo := outs_any b
          unfold vBlk at hoo
          have hin := outs_in hright
          rw [hkind] at hin
          have hle := okIns_len hin
          have HIN := Fact.mk hin
          have HLE := Fact.mk hle
          have BK := Fact.mk hblk
          have RT := Fact.mk hright
          have KD := Fact.mk hkind
          have i1 : (k : Int) ≤ (ls.length : Int) := by omega
          have i2 : (k : Int) ≤ 40 := by omega
          have n1 := hst.out.n1
          have n2 := hst.out.n2
          have ST2 := Fact.mk hst.out
          clear hst hblk hright hkind hin hle
          obtain ⟨d0, d1, d2, d3, d4, d5, d6, d7, d8, d9, -, -, -, -, -, -, -, -, -, -⟩ := row10 BK.out
          go_wp2_with fail
          refine (hoo _).mono ?_
          rintro e W2' ⟨vo, rfl, ho, hb2, -⟩
          obtain ⟨lo0, Ao, co, rfl, lo1, lo2, lo3⟩ := ho
          have HB2 := Fact.mk hb2
          have HO := Fact.mk lo3
          obtain ⟨lp0, Ap', cp', ep, lp1, lp2, lp3⟩ := ST2.out.pins.below hb2
          cases ep
          have HP := Fact.mk lp3
          clear hb2 hoo d0 d1 d2 d3 d4 d5 d6 d7 d8 d9 lo3 lp3 lo2 lp2
          have hll : (((outsB b).length : Int) != ((pinsOut b0.kind).length : Int)) = false := by rw [HLE.out]; simp
          go_wp2_with fail
          go_loop [49] (fun i => ∃ m : Nat, m ≤ (pinsOut b0.kind).length ∧ i = .int .i64 m) (fun i => (pinsOut b0.kind).length - (intOf i).toNat)
          case atStart => exact ⟨0, Nat.zero_le _, rfl⟩
          case round =>
            obtain ⟨m, hm, rfl⟩ := hrel
            by_cases hmp : m < (pinsOut b0.kind).length
            · have hmo : m < (outsB b).length := by have := HLE.out; omega
              obtain ⟨bp, op, rfl, qp⟩ := HP.out (by omega)
              obtain ⟨bo, oo, rfl, qo⟩ := HO.out (by omega)
              have pc : W2'.cell? ⟨bp, op + m, none⟩ = some (.int .u8 (pinsOut b0.kind)[m]) := by
                have := qp m hmp 0 _ rfl
                rwa [show op + m * 1 + 0 = op + m from by omega] at this
              have oc : W2'.cell? ⟨bo, oo + m, none⟩ = some (.int .i64 (outsB b)[m]) := by
                have := qo m hmo 0 _ rfl
                rwa [show oo + m * 1 + 0 = oo + m from by omega] at this
              have hr := okIns_at HIN.out m hmp hmo
              obtain ⟨t, ht⟩ : ∃ t, (pinsOut b0.kind)[m] = t := ⟨_, rfl⟩
              obtain ⟨x, hx⟩ : ∃ x, (outsB b)[m] = x := ⟨_, rfl⟩
              rw [ht] at pc hr
              rw [hx] at oc hr
              have j1 : (m : Int) < ((pinsOut b0.kind).length : Int) := by omega
              have j2 : (m : Int) < ((outsB b).length : Int) := by omega
              obtain ⟨lo, hlo⟩ : ∃ lo, (rangeOf t).1 = lo := ⟨_, rfl⟩
              obtain ⟨hi, hhi⟩ : ∃ hi, (rangeOf t).2 = hi := ⟨_, rfl⟩
              have hrg := range_any t W2'
              unfold inR at hr
              rw [hlo, hhi] at hrg hr
              simp only [Bool.and_eq_true, decide_eq_true_eq] at hr
              obtain ⟨hr1, hr2⟩ := hr
              clear qp qo ht hx hlo hhi
              go_wp2_with (go_at_call 25; refine hrg.mono ?_; rintro e w' ⟨rfl, rfl⟩)
              go_round
              case rel => exact ⟨m + 1, by omega, by go_num⟩
              case measure => simp [intOf]; omega
            · obtain rfl : m = (pinsOut b0.kind).length := by omega
              by_cases hk2 : k < ls.length
              · by_cases h62 : k < 40
                · have i3 : (k : Int) < (ls.length : Int) := by omega
                  have i4 : (k : Int) < 40 := by omega
                  have BK2 := Fact.mk (BK.out.below HB2.out)
                  obtain ⟨bl, ol, cl', el, cl1, cl2⟩ := ((HL.out.below ST2.out.bel).below HB2.out).atGo k hk2
                  cases el
                  obtain ⟨⟨vx, L⟩, hx⟩ : ∃ x, ls[k] = x := ⟨_, rfl⟩
                  have hok := HLS.out _ (List.getElem_mem hk2)
                  have cw0 : w.cell? ⟨bl, ol + k * 2 + 1, none⟩ = some (.int .u16 ls[k].2) := by obtain ⟨_, _, _, e2, _, h2⟩ := HL.out.atGo k hk2; cases e2; exact h2
                  rw [hx] at cl1 cl2 hok cw0
                  have CW := Fact.mk cw0
                  obtain ⟨⟨ins, hins⟩, L1, L2⟩ := hok
                  obtain ⟨Ax, nx, cx, rfl⟩ := hins.slice
                  have hx2 := (hins.below ST2.out.bel).below HB2.out
                  obtain ⟨hnx, hcut⟩ := hx2.cut
                  have RX := Fact.mk hcut
                  have C1 := Fact.mk cl1
                  have C2 := Fact.mk cl2
                  have nx0 : nx ≤ 9223372036854775807 := by rw [hnx]; exact hins.1
                  have ncx : nx ≤ cx := by
                    obtain ⟨_, _, _, e, h, _⟩ := hins
                    cases e
                    omega
                  clear hx hins hx2 hcut hnx cw0
                  have hrun := fun W (hw : Below W2'.heap.size W2' W) => run_any b (ins.take 8) (.slice Ax (min nx 8) cx) now W (RX.out.below hw)
                  obtain ⟨b', hb'⟩ : ∃ b', (runB b (ins.take 8) now).1 = b' := ⟨_, rfl⟩
                  obtain ⟨e', he'⟩ : ∃ e', (runB b (ins.take 8) now).2 = e' := ⟨_, rfl⟩
                  have hright := right_run (ins.take 8) now RT.out
                  rw [hb'] at hright
                  rw [hb', he'] at hrun
                  unfold vBlk at hrun
                  have HRUN := Fact.mk hrun
                  have RT3 := Fact.mk hright.1
                  have KD3 := Fact.mk (hright.2.trans KD.out)
                  clear hrun hb' he' hright cl1 cl2
                  obtain ⟨d0, d1, d2, d3, d4, d5, d6, d7, d8, d9, -, -, -, -, -, -, -, -, -, -⟩ := row10 BK2.out
                  have cl1 := C1.out
                  go_upto_region 19 with (fail)
                  go_cut [] (fun wx => OutMid W2' w.heap.size b' wx)
                  case first =>
                    by_cases h8 : nx ≤ 8
                    · have hm8 : min nx 8 = nx := by omega
                      rw [hm8] at HRUN
                      have e1 : ¬ (8 : Int) < (nx : Int) := by omega
                      have e2 : (nx : Int) ≤ (cx : Int) := by omega
                      clear hm8
                      refine wp_region_head 15 5 rfl (by kernel_rfl) (by kernel_rfl) ?_
                      simp only [List.take_succ_cons, List.take_zero]
                      repeat still_step
                      refine wpStill_nil ?_
                      refine wpAny_ready (rs := [15]) (by kernel_rfl) (by simp) ?_
                      refine AllReady.cons rfl (fun K hK => ?_) AllReady.nil
                      go_simp
                      go_wp2_with (go_at_call 18; refine (HRUN.out _ (below_drw _)).mono ?_; rintro e W3 ⟨rfl, hb3⟩; have HB3 := Fact.mk (below_cl (below_drw W2') hb3); have hh := BK2.out.below HB3.out; obtain ⟨y0, y1, y2, y3, y4, y5, y6, y7, y8, y9, z0, z1, z2, z3, z4, z5, z6, z7, z8, z9⟩ := row10 hh; have HH := Fact.mk hh; clear hh hb3)
                      refine wpAny_take (i := 16) (v := ?_) rfl (by kernel_rfl) (by kernel_rfl) (by kernel_rfl) (fun _ _ _ h => h) (Or.inl ⟨by rfl, ?_⟩) ?_
                      rotate_left
                      · intro w
                        go_simp
                        try with_reducible rfl
                      refine wpAny_take (i := 17) (v := ?_) rfl (by kernel_rfl) (by kernel_rfl) (by kernel_rfl) (fun _ _ _ h => h) (Or.inl ⟨by rfl, ?_⟩) ?_
                      rotate_left
                      · intro w
                        go_simp
                        try with_reducible rfl
                      refine wpAny_take (i := 18) (v := ?_) rfl (by kernel_rfl) (by kernel_rfl) (by kernel_rfl) (fun _ _ _ h => h) (Or.inl ⟨by rfl, ?_⟩) ?_
                      rotate_left
                      · intro w
                        go_simp
                        try with_reducible rfl
                      refine wpAny_ready (rs := [19]) (by kernel_rfl) (by simp) ?_
                      refine AllReady.cons rfl (fun K hK => ?_) AllReady.nil
                      go_simp
                      refine hK _ _ ?_
                      clear hK K
                      refine wpAny_done (by kernel_rfl) ?_ _
                      go_wp2_with fail
                      go_meet
                      obtain ⟨w2, e2, h2, g2⟩ := store10 HH.out (.int .u8 b'.kind) (.bool b'.w0) (.bool b'.w1) (.bool b'.ran) (.bool b'.going) (.int .i64 b'.frm) (.int .i64 b'.et) (.int .i64 b'.cv) (.bool b'.q) (.bool b'.p)
                      rw [e2]
                      exact ⟨h2, grown_trans (grown_below HB3.out _) g2⟩
                    · have hm8 : min nx 8 = 8 := by omega
                      rw [hm8] at HRUN
                      have e1 : (8 : Int) < (nx : Int) := by omega
                      have e2 : (8 : Int) ≤ (cx : Int) := by omega
                      clear hm8
                      refine wp_region_head 15 5 rfl (by kernel_rfl) (by kernel_rfl) ?_
                      simp only [List.take_succ_cons, List.take_zero]
                      repeat still_step
                      refine wpStill_nil ?_
                      refine wpAny_ready (rs := [15]) (by kernel_rfl) (by simp) ?_
                      refine AllReady.cons rfl (fun K hK => ?_) AllReady.nil
                      go_simp
                      go_wp2_with (go_at_call 18; refine (HRUN.out _ (below_drw _)).mono ?_; rintro e W3 ⟨rfl, hb3⟩; have HB3 := Fact.mk (below_cl (below_drw W2') hb3); have hh := BK2.out.below HB3.out; obtain ⟨y0, y1, y2, y3, y4, y5, y6, y7, y8, y9, z0, z1, z2, z3, z4, z5, z6, z7, z8, z9⟩ := row10 hh; have HH := Fact.mk hh; clear hh hb3)
                      refine wpAny_take (i := 16) (v := ?_) rfl (by kernel_rfl) (by kernel_rfl) (by kernel_rfl) (fun _ _ _ h => h) (Or.inl ⟨by rfl, ?_⟩) ?_
                      rotate_left
                      · intro w
                        go_simp
                        try with_reducible rfl
                      refine wpAny_take (i := 17) (v := ?_) rfl (by kernel_rfl) (by kernel_rfl) (by kernel_rfl) (fun _ _ _ h => h) (Or.inl ⟨by rfl, ?_⟩) ?_
                      rotate_left
                      · intro w
                        go_simp
                        try with_reducible rfl
                      refine wpAny_take (i := 18) (v := ?_) rfl (by kernel_rfl) (by kernel_rfl) (by kernel_rfl) (fun _ _ _ h => h) (Or.inl ⟨by rfl, ?_⟩) ?_
                      rotate_left
                      · intro w
                        go_simp
                        try with_reducible rfl
                      refine wpAny_ready (rs := [19]) (by kernel_rfl) (by simp) ?_
                      refine AllReady.cons rfl (fun K hK => ?_) AllReady.nil
                      go_simp
                      refine hK _ _ ?_
                      clear hK K
                      refine wpAny_done (by kernel_rfl) ?_ _
                      go_wp2_with fail
                      go_meet
                      obtain ⟨w2, e2, h2, g2⟩ := store10 HH.out (.int .u8 b'.kind) (.bool b'.w0) (.bool b'.w1) (.bool b'.ran) (.bool b'.going) (.int .i64 b'.frm) (.int .i64 b'.et) (.int .i64 b'.cv) (.bool b'.q) (.bool b'.p)
                      rw [e2]
                      exact ⟨h2, grown_trans (grown_below HB3.out _) g2⟩
                  case rest =>
                    obtain ⟨hk3, g3⟩ := hcut
                    have hbw : Below w.heap.size w W2' := ST2.out.bel.trans (HB2.out.mono ST2.out.bel.size)
                    have b4 : Below w.heap.size w wc := hbw.trans (grown_Below g3 hbw.size (Nat.le_refl _))
                    have p4 := (ST2.out.pins.below HB2.out).grown g3 ST2.out.pne
                    have cw := cell_below b4 _ _ CW.out
                    have ST4 : Fact (OutsSt w wc w.heap.size (.slice Ap (pinsOut b0.kind).length cp) b0.kind (now + L) (k + 1)) := ⟨⟨⟨b', hk3, RT3.out, KD3.out⟩, p4, ST2.out.pne, b4, Nat.le_refl _, by omega, by omega⟩⟩
                    clear hk3 g3 b4 p4 hbw d0 d1 d2 d3 d4 d5 d6 d7 d8 d9 cl1
                    go_wp2_with fail
                    go_roundw
                    case rel => exact ⟨k + 1, now + L, by omega, by omega, by go_num, rfl, ST4⟩
                    case measure => simp [intOf]; omega
                · have i3 : (k : Int) < (ls.length : Int) := by omega
                  have i4 : ¬ (k : Int) < 40 := by omega
                  go_wp2_with fail
                  go_roundw
                  case rel => exact ⟨k + 1, now, by omega, by omega, by go_num, rfl, ⟨⟨⟨b, BK.out.below HB2.out, RT.out, KD.out⟩, ST2.out.pins.below HB2.out, ST2.out.pne, ST2.out.bel.trans (HB2.out.mono ST2.out.bel.size), ST2.out.lo, by omega, by omega⟩⟩⟩
                  case measure => simp [intOf]; omega
              · have i3 : ¬ (k : Int) < (ls.length : Int) := by omega
                go_wp2_with fail
                go_roundw
                case rel => exact ⟨k + 1, now, by omega, by omega, by go_num, rfl, ⟨⟨⟨b, BK.out.below HB2.out, RT.out, KD.out⟩, ST2.out.pins.below HB2.out, ST2.out.pne, ST2.out.bel.trans (HB2.out.mono ST2.out.bel.size), ST2.out.lo, by omega, by omega⟩⟩⟩
                case measure => simp [intOf]; omega
        · obtain rfl : k = 41 := by omega
          have i2 : ¬ ((41 : Nat) : Int) ≤ 40 := by omega
          have i1 : ((41 : Nat) : Int) ≤ (ls.length : Int) := by omega
          have HB := Fact.mk hst.out.bel
          clear hst
          go_wp2_with fail
          refine (awk _).mono ?_
          rintro e W5 ⟨rfl, hb5⟩
          have B5 := Fact.mk (HB.out.trans (hb5.mono HB.out.size))
          clear hb5
          go_wp2_with fail
          go_ret
          exact ⟨rfl, B5.out⟩
      · obtain rfl : k = ls.length + 1 := by omega
        have i1 : ¬ ((ls.length + 1 : Nat) : Int) ≤ (ls.length : Int) := by omega
        have HB := Fact.mk hst.out.bel
        clear hst
        go_wp2_with fail
        refine (awk _).mono ?_
        rintro e W5 ⟨rfl, hb5⟩
        have B5 := Fact.mk (HB.out.trans (hb5.mono HB.out.size))
        clear hb5
        go_wp2_with fail
        go_ret
        exact ⟨rfl, B5.out⟩
end Go.Proofs.Ytjanofopmmndoaa

