/- Contract of blockhouselaw15.ran: a block of a kind, run with inputs one behind the other. -/
import Derived.Test.YtjanofopmmndoaaLrun
import Derived.Test.YtjanofopmmndoaaBaseM
import Derived.StillTailTactics
import Derived.Deep.DeepCutAuto
namespace Go.Proofs.Ytjanofopmmndoaa
open Go.RowKit
def ranL (pin : Nat) : GBlock → List Int → List (List Int) → Option (List Int)
  | _, _, [] => some []
  | _, [], _ :: _ => none
  | b, t :: ts, i :: is => if (runB b i t).2 = 0 ∧ pin < (outsB (runB b i t).1).length then (ranL pin (runB b i t).1 ts is).map (fun l => (outsB (runB b i t).1).getD pin 0 :: l) else none
theorem ranL_step {pin : Nat} {b : GBlock} {ts : List Int} {is : List (List Int)} {rest : List Int} {j : Nat} (h : ranL pin b (ts.drop j) (is.drop j) = some rest) (hj : j < is.length) :
    ∃ (ht : j < ts.length) (rest' : List Int), (runB b is[j] ts[j]).2 = 0 ∧ pin < (outsB (runB b is[j] ts[j]).1).length ∧ rest = (outsB (runB b is[j] ts[j]).1).getD pin 0 :: rest' ∧ ranL pin (runB b is[j] ts[j]).1 (ts.drop (j + 1)) (is.drop (j + 1)) = some rest' := by
  by_cases ht : j < ts.length
  · rw [List.drop_eq_getElem_cons hj, List.drop_eq_getElem_cons ht] at h
    unfold ranL at h
    split at h
    · rename_i hc
      cases hr : ranL pin (runB b is[j] ts[j]).1 (ts.drop (j + 1)) (is.drop (j + 1)) with
      | none => rw [hr] at h; cases h
      | some r =>
        rw [hr] at h
        simp only [Option.map_some, Option.some.injEq] at h
        exact ⟨ht, r, hc.1, hc.2, h.symm, hr⟩
    · cases h
  · rw [List.drop_eq_getElem_cons hj, List.drop_of_length_le (by omega)] at h
    cases h
/-- A slice of slices of numbers that is read. -/
def Rd2 (w : World) (v : Value) (xss : List (List Int)) : Prop :=
  xss.length ≤ 9223372036854775807 ∧ ∃ A c, v = .slice A xss.length c ∧ ∀ j, (h : j < xss.length) → ∃ b off u, A = some ⟨b, off, none⟩ ∧ w.cell? ⟨b, off + j, none⟩ = some u ∧ Rd oneI64 1 w u xss[j]
theorem Rd2.below {w w' : World} {v : Value} {xss : List (List Int)} (h : Rd2 w v xss) (hb : Below w.heap.size w w') : Rd2 w' v xss := by
  obtain ⟨h0, A, c, h1, h2⟩ := h
  refine ⟨h0, A, c, h1, fun j hj => ?_⟩
  obtain ⟨b, off, u, e, hc, hr⟩ := h2 j hj
  exact ⟨b, off, u, e, cell_below hb _ _ hc, hr.below hb⟩
theorem Try.infoI64 : (Try.prog.info? 2).map (fun i => (i.zero, i.size, i.bytes)) = some (some (.int .i64 0), 1, 8) := by kernel_rfl
theorem below_dr (w : World) : Below w.heap.size w w.drew := ⟨rfl, rfl, rfl, Nat.le_refl _, fun _ _ => rfl⟩
theorem below_aldr (w : World) (o : Obj) : Below w.heap.size w (w.alloc o).drew := ((Below.refl _ _).alloc (Nat.le_refl _) _).drew
theorem below_call {a w w' : World} (h : Below a.heap.size a w) (hb : Below w.heap.size w w') : Below a.heap.size a w' := h.trans (hb.mono h.size)
def RanMid (wr : World) (b : GBlock) (v : Value) (w : World) : Prop := ∃ g, v = .pointer (some ⟨g, 0, none⟩) ∧ BlkAt w g b ∧ wr.heap.size ≤ g ∧ Below wr.heap.size wr w
theorem ran_A {wr w : World} {b : GBlock} (h : Below wr.heap.size wr w) : RanMid wr b (.pointer (some ⟨w.heap.size, 0, none⟩)) (w.alloc (.cells #[.int .u8 b.kind, .bool b.w0, .bool b.w1, .bool b.ran, .bool b.going, .int .i64 b.frm, .int .i64 b.et, .int .i64 b.cv, .bool b.q, .bool b.p] 25)) :=
  ⟨_, rfl, heap_alloc_new w _, h.size, h.alloc h.size _⟩
theorem ran_B {wr w : World} {b : GBlock} {v0 v1 v2 v3 v4 v5 v6 v7 v8 v9 : Value} {g : Nat} (h : Below wr.heap.size wr w) (hh : w.heap[g]? = some (.cells #[v0, v1, v2, v3, v4, v5, v6, v7, v8, v9] 25 (0, 0))) (hg : wr.heap.size ≤ g) : RanMid wr b (.pointer (some ⟨g, 0, none⟩)) ((((((((((w.setCell ⟨g, 0, none⟩ (.int .u8 b.kind)).setCell ⟨g, 1, none⟩ (.bool b.w0)).setCell ⟨g, 2, none⟩ (.bool b.w1)).setCell ⟨g, 3, none⟩ (.bool b.ran)).setCell ⟨g, 4, none⟩ (.bool b.going)).setCell ⟨g, 5, none⟩ (.int .i64 b.frm)).setCell ⟨g, 6, none⟩ (.int .i64 b.et)).setCell ⟨g, 7, none⟩ (.int .i64 b.cv)).setCell ⟨g, 8, none⟩ (.bool b.q)).setCell ⟨g, 9, none⟩ (.bool b.p)) := by
  obtain ⟨w2, e2, h2, g2⟩ := store10 hh (.int .u8 b.kind) (.bool b.w0) (.bool b.w1) (.bool b.ran) (.bool b.going) (.int .i64 b.frm) (.int .i64 b.et) (.int .i64 b.cv) (.bool b.q) (.bool b.p)
  rw [e2]
  exact ⟨_, rfl, h2, hg, h.trans (grown_Below g2 h.size hg)⟩
/-- Where a round of ran stands. -/
structure RanSt (w wr : World) (V : Nat) (v : Value) (b : GBlock) (acc : List Int) : Prop where
  own : Own 2 1 oneI64 wr (V + 1) v acc
  blk : BlkAt wr V b
  bel : Below w.heap.size w wr
  lo : w.heap.size ≤ V
  hi : V + 1 ≤ wr.heap.size
set_option maxRecDepth 100000 in
set_option maxHeartbeats 16000000 in
theorem ran_any (k : Int) (hk1 : 1 ≤ k) (hk2 : k ≤ 11) (pin : Nat) (ts : List Int) (iss : List (List Int)) (vt vi : Value) (w : World) (ht : Rd oneI64 1 w vt ts) (hi : Rd2 w vi iss) (res : List Int) (hres : ranL pin (newB k) ts iss = some res) (hsm : iss.length ≤ 1000) :
    Calls Try.prog 39 #[.int .u8 k, .int .i64 pin, vt, vi] w fun e w' => ∃ v, e = .returned v ∧ Rd oneI64 1 w' v res ∧ Below w.heap.size w w' := by
  obtain ⟨i0, hi0, hz0, hz1, hz2⟩ := info_parts Try.infoI64
  have hnew := new_any k hk1 hk2 w
  have hi' := hi
  obtain ⟨l0, Ai, ci, rfl, -⟩ := hi'
  obtain ⟨At, nt, ct, rfl⟩ := ht.slice
  have HT := Fact.mk ht
  have HI := Fact.mk hi
  have HRES := Fact.mk hres
  have HSM := Fact.mk hsm
  clear ht hi hres hsm
  unfold vBlk newB at hnew
  go_enter Try.func39, Try.ntmps39
  go_wp2_with fail
  refine hnew.mono ?_
  rintro e W1 ⟨rfl, hb1⟩
  clear hnew
  have HB1 := Fact.mk hb1
  clear hb1
  go_wp2_with fail
  go_loopw [11, 23] (fun v i wr => ∃ (j : Nat) (b : GBlock) (acc rest : List Int), j ≤ iss.length ∧ i = .int .i64 j ∧ Fact (RanSt w wr W1.heap.size v b acc) ∧ Fact (ranL pin b (ts.drop j) (iss.drop j) = some rest ∧ acc ++ rest = res ∧ acc.length = j)) (fun _ i _ => iss.length - (intOf i).toNat)
  case atStart =>
    have h1 := one_block W1 (.cells #[.int .u8 k, .bool false, .bool false, .bool false, .bool false, .int .i64 0, .int .i64 0, .int .i64 0, .bool false, .bool false] 25)
    exact ⟨0, newB k, [], res, Nat.zero_le _, rfl, ⟨⟨Own.nil _ _ _ _ _, h1.2.1, HB1.out.trans (h1.1.mono HB1.out.size), HB1.out.size, by rw [h1.2.2]; omega⟩⟩, ⟨HRES.out, rfl, rfl⟩⟩
  case round =>
    obtain ⟨j, b, acc, rest, hj, rfl, hst, hrest⟩ := hrel
    obtain ⟨V, hV⟩ : ∃ V, V = W1.heap.size := ⟨_, rfl⟩
    have HV := Fact.mk hV
    by_cases hlt : j < iss.length
    · obtain ⟨hr1, hr2, hr3⟩ := hrest.out
      obtain ⟨htl, rest', s1, s2, rfl, s4⟩ := ranL_step hr1 hlt
      obtain ⟨bi, oi, u, rfl, ci1, ri1⟩ := (show ∃ b off u, Ai = some ⟨b, off, none⟩ ∧ wr.cell? ⟨b, off + j, none⟩ = some u ∧ Rd oneI64 1 wr u iss[j] by
        obtain ⟨_, A, c, e, h2⟩ := HI.out.below hst.out.bel
        cases e
        exact h2 j hlt)
      obtain ⟨bt, ot, ct', et, ct1⟩ := (HT.out.below hst.out.bel).at64 j htl
      cases et
      obtain ⟨t, htt⟩ : ∃ t, ts.getD j 0 = t := ⟨_, rfl⟩
      obtain ⟨is, hiss⟩ : ∃ is, iss[j] = is := ⟨_, rfl⟩
      have htt2 : ts[j] = t := by rw [← htt, List.getD_eq_getElem?_getD, List.getElem?_eq_getElem htl]; rfl
      rw [htt] at ct1
      rw [hiss] at ri1 s1 s2 s4 hr2
      rw [htt2] at s1 s2 s4 hr2
      obtain ⟨b', hb'⟩ : ∃ b', (runB b is t).1 = b' := ⟨_, rfl⟩
      have hrun := fun W (hw : Below wr.heap.size wr W) => run_any b is u t W (ri1.below hw)
      rw [s1, hb'] at hrun
      unfold vBlk at hrun
      rw [hb'] at s2 s4 hr2
      have HRUN := Fact.mk hrun
      have S2 := Fact.mk s2
      have S4 := Fact.mk s4
      have HR2 := Fact.mk hr2
      have HR3 := Fact.mk hr3
      have HRI := Fact.mk ri1
      have HST := Fact.mk hst.out
      have lt2 : (j : Int) < (ts.length : Int) := by omega
      have lt1 : (j : Int) < (iss.length : Int) := by omega
      have CI := Fact.mk ci1
      have CT := Fact.mk ct1
      clear hst hrest hr1 hr2 hr3 s1 s2 s4 hiss htt htt2 hb' hrun ri1 ci1 ct1 hV
      go_wp2_with fail
      obtain ⟨d0, d1, d2, d3, d4, d5, d6, d7, d8, d9, -, -, -, -, -, -, -, -, -, -⟩ := row10 HST.out.blk
      have ci1 := CI.out
      have ct1 := CT.out
      have lb1 : bi < wr.heap.size := World.block_lt_of_cell? wr _ ci1
      have lb2 : bt < wr.heap.size := World.block_lt_of_cell? wr _ ct1
      have lb3 : W1.heap.size < wr.heap.size := HST.out.hi
      clear HV
      go_upto_region 6 with (fail)
      go_cut [13, 14] (fun s13 s14 wx => s14 = .int .i64 0 ∧ RanMid wr b' s13 wx)
      case first =>
        go_region_with (go_at_call 18; refine (HRUN.out _ (by first | exact below_dr _ | exact below_aldr _ _)).mono ?_; rintro e W2 ⟨rfl, hb2⟩; first | (have hh := (hb2.block wr.heap.size (by simp)).trans (heap_alloc_new wr _); obtain ⟨y0, y1, y2, y3, y4, y5, y6, y7, y8, y9, z0, z1, z2, z3, z4, z5, z6, z7, z8, z9⟩ := row10 hh; have HH := Fact.mk hh; clear hh) | skip)
        all_goals (go_wp2_with fail; go_meet; (refine ⟨rfl, ?_⟩; first | (with_reducible exact ran_A (below_call (below_dr wr) hb2)) | (with_reducible exact ran_B (below_call (below_aldr wr _) hb2) HH.out (Nat.le_refl _))))
      case rest =>
        obtain ⟨rfl, hmid⟩ := hcut
        clear d0 d1 d2 d3 d4 d5 d6 d7 d8 d9 ci1 ct1
        obtain ⟨g, rfl, hg, hgl, hwb⟩ := hmid
        obtain ⟨d0, d1, d2, d3, d4, d5, d6, d7, d8, d9, -, -, -, -, -, -, -, -, -, -⟩ := row10 hg
        have HG := Fact.mk hg
        have HWB := Fact.mk hwb
        clear hg hwb
        go_wp2_with fail
        refine (outs_any b' _).mono ?_
        rintro e W5 ⟨vo, rfl, hro, hb5, -⟩
        obtain ⟨bo, oo, co, rfl, co1⟩ := hro.at64 pin S2.out
        obtain ⟨x, hx⟩ : ∃ x, (outsB b').getD pin 0 = x := ⟨_, rfl⟩
        have hr2 := HR2.out
        rw [hx] at co1 hr2
        have ipn : (pin : Int) < ((outsB b').length : Int) := by have := S2.out; omega
        have HW5 := Fact.mk (HWB.out.trans (hb5.mono HWB.out.size))
        have hown : Own 2 1 oneI64 W5 (W1.heap.size + 1) u11 acc := HST.out.own.below HW5.out
        have hg5 : BlkAt W5 g b' := HG.out.below hb5
        have HOWN := Fact.mk hown
        have HG5 := Fact.mk hg5
        have HR := Fact.mk hr2
        have hdl : decide ((outsB b').length ≤ pin) = false := decide_eq_false (by have := S2.out; omega)
        have hbz : W1.heap.size + 1 ≤ W5.heap.size := Nat.le_trans HST.out.hi HW5.out.size
        have hal : acc.length ≤ 1000 := by have := HR3.out; have := HSM.out; omega
        clear d0 d1 d2 d3 d4 d5 d6 d7 d8 d9 hro hb5 hx hown hg5 hr2
        go_wp2_with (at_builtin; apply Classical.byContradiction; intro hstop)
        apply hstop
        clear hstop
        refine wpList_push rfl _ _ 32 rfl (W1.heap.size + 1) 2 i0 (.int .i64 0) 1 8 Try.underlying32 hi0 hz0 hz1 hz2 rfl (by decide) (by decide) oneI64 _ _ rfl HOWN.out x rfl rfl (by simp [oneI64]; rfl) ?c1 hbz ?_
        case c1 => omega
        intro v' w' ho' hgr hb'
        have hg6 : BlkAt w' g b' := by
          have h6 := hgr.block g HG5.out.lt (fun e => by
            have := (World.ownsRow.lt HST.out.own g (show u11.ownBlock = some g from e.symm)).2
            omega)
          unfold BlkAt
          rw [h6]; exact HG5.out
        have hv6 : BlkAt w' W1.heap.size b := by
          have h6 := hb'.block W1.heap.size (by omega)
          unfold BlkAt
          rw [h6]; exact HST.out.blk.below HW5.out
        obtain ⟨d0, d1, d2, d3, d4, d5, d6, d7, d8, d9, -, -, -, -, -, -, -, -, -, -⟩ := row10 hg6
        obtain ⟨l0, l1, l2, l3, l4, l5, l6, l7, l8, l9, m0, m1, m2, m3, m4, m5, m6, m7, m8, m9⟩ := row10 hv6
        have HV6 := Fact.mk hv6
        have HO6 := Fact.mk ho'
        have HB6 := Fact.mk hb'
        have hne : ¬ W1.heap.size = g := by have := HST.out.hi; omega
        clear hg6 hv6 ho' hgr hb' co1
        go_wp2_with fail
        obtain ⟨w2, e2, h2, k2⟩ := store10 HV6.out (.int .u8 b'.kind) (.bool b'.w0) (.bool b'.w1) (.bool b'.ran) (.bool b'.going) (.int .i64 b'.frm) (.int .i64 b'.et) (.int .i64 b'.cv) (.bool b'.q) (.bool b'.p)
        have hlo := HST.out.lo
        have K2 := Fact.mk k2
        have H2 := Fact.mk h2
        have E2 := Fact.mk e2
        clear k2 h2 e2
        go_roundw
        case rel =>
          rw [E2.out]
          refine ⟨j + 1, b', acc ++ [x], rest', by omega, by go_num, ⟨⟨World.ownsRow.kept HO6.out K2.out (.inr (fun e => by have := (World.ownsRow.lt HO6.out W1.heap.size e).1; omega)), H2.out, ?_, hlo, ?_⟩⟩, ⟨S4.out, by rw [List.append_assoc]; exact HR.out, by simp [HR3.out]⟩⟩
          · exact ((HST.out.bel.trans (HW5.out.mono HST.out.bel.size)).trans (HB6.out.mono (by omega))).trans (grown_Below K2.out (by have := HB6.out.size; omega) hlo)
          · have := HB6.out.size
            have := K2.out.size
            omega
        case measure => simp [intOf]; omega
    · obtain rfl : j = iss.length := by omega
      obtain ⟨h1, h2, h3⟩ := hrest.out
      rw [List.drop_of_length_le (Nat.le_refl iss.length)] at h1
      have hrest0 : rest = [] := by
        unfold ranL at h1
        exact (Option.some.inj h1).symm
      rw [hrest0, List.append_nil] at h2
      have HF : Fact (∃ v, Ending.returned u11 = .returned v ∧ Rd oneI64 1 wr v res ∧ Below w.heap.size w wr) := ⟨⟨u11, rfl, by rw [← h2]; exact hst.out.own.rd oneI64_len, hst.out.bel⟩⟩
      clear hst hrest h1 h2 h3 hrest0 hV HV
      go_wp2_with fail
      go_ret
      exact HF.out
end Go.Proofs.Ytjanofopmmndoaa

