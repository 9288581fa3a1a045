/- BlocksKeep: the walk. -/
import Derived.Test.YtjanofopmmndoaaOutsL
import Derived.Test.YtjanofopmmndoaaHeadM
import Derived.Test.YtjanofopmmndoaaRBlkM
import Derived.Test.YtjanofopmmndoaaPM
import Derived.Deep.CutBlock
namespace Go.Proofs.Ytjanofopmmndoaa
open Go.RowKit
theorem below_ald (w : World) (o : Obj) : Below w.heap.size w (w.alloc o).drew := ((Below.refl _ _).alloc (Nat.le_refl _) _).drew
def KMid (wr : World) (b : GBlock) (v : Value) (w : World) : Prop := ∃ g, v = .pointer (some ⟨g, 0, none⟩) ∧ BlkAt w g b ∧ wr.heap.size ≤ g ∧ Below wr.heap.size wr w
def twoB (x : Bool × Bool) : List Value := [.bool x.1, .bool x.2]
theorem twoB_len (x : Bool × Bool) : (twoB x).length = 2 := rfl
theorem Rd.at2 {w : World} {v : Value} {xs : List (Bool × Bool)} (h : Rd twoB 2 w v xs) (i : Nat) (hi : i < xs.length) : ∃ b off c, v = .slice (some ⟨b, off, none⟩) xs.length c ∧ w.cell? ⟨b, off + i * 2, none⟩ = some (.bool xs[i].1) ∧ w.cell? ⟨b, off + i * 2 + 1, none⟩ = some (.bool xs[i].2) := by
  obtain ⟨h0, A, c, rfl, h2, h4, h3⟩ := h
  obtain ⟨b, off, rfl, hc⟩ := h3 (by omega)
  exact ⟨b, off, c, rfl, hc i hi 0 _ rfl, hc i hi 1 _ rfl⟩
def ltB (k : Int) (q : Bool) : GBlock := ⟨k, false, false, false, false, 0, 0, 0, q, false⟩
theorem run_sr (q s r : Bool) : runB (ltB 9 q) [truthI s, truthI r] 0 = (ltB 9 (s || q && !r), 0) := by cases q <;> cases s <;> cases r <;> kernel_rfl
theorem run_rs (q s r : Bool) : runB (ltB 10 q) [truthI s, truthI r] 0 = (ltB 10 (!r && (s || q)), 0) := by cases q <;> cases s <;> cases r <;> kernel_rfl
theorem outs_sr (q : Bool) : outsB (ltB 9 q) = [truthI q] := by cases q <;> kernel_rfl
theorem outs_rs (q : Bool) : outsB (ltB 10 q) = [truthI q] := by cases q <;> kernel_rfl
structure LatSt (w wr : World) (U D : Nat) (held loose : Bool) : Prop where
  up : BlkAt wr U (ltB 9 held)
  down : BlkAt wr D (ltB 10 loose)
  bel : Below w.heap.size w wr
  lo : w.heap.size ≤ U
  ne : U < D
structure KeepSt (w wr : World) (V : Nat) (R : Bool) (now : Int) (k : Nat) : Prop where
  blk : ∃ b, BlkAt wr V b ∧ rightBlk b = R
  bel : Below w.heap.size w wr
  lo : w.heap.size ≤ V
  n1 : 0 ≤ now
  n2 : now ≤ 65535 * (k : Int)
set_option maxRecDepth 100000 in
set_option maxHeartbeats 16000000 in
theorem keep_any (awk : ∀ w, Calls Try.prog 20 #[] w fun e w' => e = .returned (.bool true) ∧ Below w.heap.size w w') (b0 : GBlock) (ls : List (Value × Int)) (xs : List (Bool × Bool)) (vl vx : Value) (w : World) (hl : Rd encGo 2 w vl ls) (hls : ∀ a ∈ ls, GoOk w a) (hx : Rd twoB 2 w vx xs) : Calls Try.prog 7 #[vBlk b0, vl, vx] w fun e w' => e = .returned (.bool true) ∧ Below w.heap.size w w' := by
  have hrr := rblk_any b0
  obtain ⟨Al, cl, rfl, l0⟩ : ∃ A c, vl = .slice A ls.length c ∧ ls.length ≤ 9223372036854775807 := by
    obtain ⟨h0, A, c, e, _⟩ := hl
    exact ⟨A, c, e, h0⟩
  obtain ⟨As, cs, rfl, s0⟩ : ∃ A c, vx = .slice A xs.length c ∧ xs.length ≤ 9223372036854775807 := by
    obtain ⟨h0, A, c, e, _⟩ := hx
    exact ⟨A, c, e, h0⟩
  have n9 := new_any 9 (by decide) (by decide)
  have n10 := new_any 10 (by decide) (by decide)
  unfold vBlk newB at n9 n10
  have N9 := Fact.mk n9
  have N10 := Fact.mk n10
  have HL := Fact.mk hl
  have HLS := Fact.mk hls
  have HX := Fact.mk hx
  clear hl hls hx n9 n10
  obtain ⟨h1, h2, h3⟩ := one_block w (Obj.cells #[.int .u8 b0.kind, .bool b0.w0, .bool b0.w1, .bool b0.ran, .bool b0.going, .int .i64 b0.frm, .int .i64 b0.et, .int .i64 b0.cv, .bool b0.q, .bool b0.p] 25)
  have HB0 := Fact.mk h1
  have HK0 : Fact (BlkAt (w.alloc (Obj.cells #[.int .u8 b0.kind, .bool b0.w0, .bool b0.w1, .bool b0.ran, .bool b0.going, .int .i64 b0.frm, .int .i64 b0.et, .int .i64 b0.cv, .bool b0.q, .bool b0.p] 25)) w.heap.size b0) := ⟨h2⟩
  clear h1 h2 h3
  unfold vBlk at hrr ⊢
  go_enter Try.func7, Try.ntmps7
  go_wp2_with fail
  refine (hrr _).mono ?_
  rintro e W1 ⟨rfl, hb1⟩
  obtain ⟨R, hR⟩ : ∃ R, rightBlk b0 = R := ⟨_, rfl⟩
  rw [hR]
  have ST : Fact (KeepSt w W1 w.heap.size R 0 0) := ⟨⟨⟨b0, HK0.out.below hb1, hR⟩, HB0.out.trans (hb1.mono HB0.out.size), Nat.le_refl _, by omega, by omega⟩⟩
  clear hb1 hrr HK0 HB0 hR
  go_upto_block 0 with (fail)
  go_cut [] (fun wx => Below w.heap.size w wx)
  case first =>
    go_wp2_with fail
    go_loopw [8, 9] (fun sn i wr => ∃ (k : Nat) (now : Int), k ≤ ls.length ∧ k ≤ 40 ∧ i = .int .i64 k ∧ sn = .int .i64 now ∧ Fact (KeepSt w wr w.heap.size R now k)) (fun _ i _ => 40 - (intOf i).toNat)
    case atStart => exact ⟨0, 0, by omega, by omega, rfl, rfl, ST⟩
    case round =>
      obtain ⟨k, now, hk, hk6, rfl, rfl, hst⟩ := hrel
      by_cases hk2 : k < ls.length
      · by_cases h62 : k < 40
        · obtain ⟨b, hblk, hright⟩ := hst.out.blk
          have BK := Fact.mk hblk
          have RT := Fact.mk hright
          have i1 : (k : Int) < (ls.length : Int) := by omega
          have i2 : (k : Int) < 40 := by omega
          have n1 := hst.out.n1
          have n2 := hst.out.n2
          have ST2 := Fact.mk hst.out
          clear hst hblk hright
          obtain ⟨bl, ol, cl', el, cl1, cl2⟩ := (HL.out.below ST2.out.bel).atGo k hk2
          cases el
          obtain ⟨⟨vx', L⟩, hx⟩ : ∃ x, ls[k] = x := ⟨_, rfl⟩
          have hok := HLS.out _ (List.getElem_mem hk2)
          have cw0 : w.cell? ⟨bl, ol + k * 2 + 1, none⟩ = some (.int .u16 ls[k].2) := by obtain ⟨_, _, _, e2, _, h2⟩ := HL.out.atGo k hk2; cases e2; exact h2
          rw [hx] at cl1 cl2 hok cw0
          have CW := Fact.mk cw0
          obtain ⟨⟨ins, hins⟩, L1, L2⟩ := hok
          obtain ⟨Ax, nx, cx, rfl⟩ := hins.slice
          obtain ⟨hnx, hcut⟩ := (hins.below ST2.out.bel).cut
          have RX := Fact.mk hcut
          have C1 := Fact.mk cl1
          have nx0 : nx ≤ 9223372036854775807 := by rw [hnx]; exact hins.1
          have ncx : nx ≤ cx := by
            obtain ⟨_, _, _, e, h, _⟩ := hins
            cases e
            omega
          have hrun := fun W (hw : Below wr.heap.size wr W) => run_any b (ins.take 8) (.slice Ax (min nx 8) cx) now W (RX.out.below hw)
          obtain ⟨b', hb'⟩ : ∃ b', (runB b (ins.take 8) now).1 = b' := ⟨_, rfl⟩
          obtain ⟨e', he'⟩ : ∃ e', (runB b (ins.take 8) now).2 = e' := ⟨_, rfl⟩
          rw [hb', he'] at hrun
          unfold vBlk at hrun
          have HRUN := Fact.mk hrun
          have HBB := Fact.mk hb'
          have HEE := Fact.mk he'
          have lb1 : bl < wr.heap.size := World.block_lt_of_cell? wr _ cl1
          have lb2 : w.heap.size < wr.heap.size := BK.out.lt
          clear hx hins hcut hnx cw0 hrun hb' he' cl2
          obtain ⟨d0, d1, d2, d3, d4, d5, d6, d7, d8, d9, -, -, -, -, -, -, -, -, -, -⟩ := row10 BK.out
          go_upto_region 6 with (fail)
          go_cut [10, 11] (fun s10 s11 wx => s11 = .int .i64 e' ∧ KMid wr b' s10 wx)
          case first =>
            by_cases h8 : nx ≤ 8
            · have hm8 : min nx 8 = nx := by omega
              rw [hm8] at HRUN
              have e1 : ¬ (8 : Int) < (nx : Int) := by omega
              have e2 : (nx : Int) ≤ (cx : Int) := by omega
              clear hm8
              refine wp_region_head_alloc (wA := (wr.alloc (.cells #[.int .u8 0, .bool false, .bool false, .bool false, .bool false, .int .i64 0, .int .i64 0, .int .i64 0, .bool false, .bool false] 25)).drew) (p := .pointer (some ⟨wr.heap.size, 0, none⟩)) 15 6 19 rfl (by kernel_rfl) (by kernel_rfl) rfl rfl ?hAlloc ?hHead
              case hAlloc =>
                intro K a hK
                refine wpOp_step rfl (fun K' hK' => ?_)
                go_simp
                exact hK' _ _ hK
              case hHead =>
                simp only [List.take_succ_cons, List.take_zero]
                refine still2_next rfl (fun K hK => ?_)
                refine ⟨?_, ?_, ?_, ?_⟩
                rotate_left
                · go_simp
                  try with_reducible rfl
                · go_simp
                  try with_reducible rfl
                go_simp
                refine hK _ ?_
                clear hK K
                refine still2_next rfl (fun K hK => ?_)
                refine ⟨?_, ?_, ?_, ?_⟩
                rotate_left
                · go_simp
                  try with_reducible rfl
                · go_simp
                  try with_reducible rfl
                go_simp
                refine hK _ ?_
                clear hK K
                refine still2_next rfl (fun K hK => ?_)
                refine ⟨?_, ?_, ?_, ?_⟩
                rotate_left
                · go_simp
                  try with_reducible rfl
                · go_simp
                  try with_reducible rfl
                go_simp
                refine hK _ ?_
                clear hK K
                refine still2_next rfl (fun K hK => ?_)
                refine ⟨?_, ?_, ?_, ?_⟩
                rotate_left
                · go_simp
                  try with_reducible rfl
                · go_simp
                  try with_reducible rfl
                go_simp
                refine hK _ ?_
                clear hK K
                refine still2_next rfl (fun K hK => ?_)
                refine ⟨?_, ?_, ?_, ?_⟩
                rotate_left
                · go_simp
                  try with_reducible rfl
                · go_simp
                  try with_reducible rfl
                go_simp
                refine hK _ ?_
                clear hK K
                refine still2_next rfl (fun K hK => ?_)
                refine ⟨?_, ?_, ?_, ?_⟩
                rotate_left
                · go_simp
                  try with_reducible rfl
                · go_simp
                  try with_reducible rfl
                go_simp
                refine hK _ ?_
                clear hK K
                refine still2_next rfl (fun K hK => ?_)
                refine ⟨?_, ?_, ?_, ?_⟩
                rotate_left
                · go_simp
                  try with_reducible rfl
                · go_simp
                  try with_reducible rfl
                go_simp
                refine hK _ ?_
                clear hK K
                refine still2_next rfl (fun K hK => ?_)
                refine ⟨?_, ?_, ?_, ?_⟩
                rotate_left
                · go_simp
                  try with_reducible rfl
                · go_simp
                  try with_reducible rfl
                go_simp
                refine hK _ ?_
                clear hK K
                refine still2_next rfl (fun K hK => ?_)
                refine ⟨?_, ?_, ?_, ?_⟩
                rotate_left
                · go_simp
                  try with_reducible rfl
                · go_simp
                  try with_reducible rfl
                go_simp
                refine hK _ ?_
                clear hK K
                refine still2_next rfl (fun K hK => ?_)
                refine ⟨?_, ?_, ?_, ?_⟩
                rotate_left
                · go_simp
                  try with_reducible rfl
                · go_simp
                  try with_reducible rfl
                go_simp
                refine hK _ ?_
                clear hK K
                refine still2_next rfl (fun K hK => ?_)
                refine ⟨?_, ?_, ?_, ?_⟩
                rotate_left
                · go_simp
                  try with_reducible rfl
                · go_simp
                  try with_reducible rfl
                go_simp
                refine hK _ ?_
                clear hK K
                refine still2_next rfl (fun K hK => ?_)
                refine ⟨?_, ?_, ?_, ?_⟩
                rotate_left
                · go_simp
                  try with_reducible rfl
                · go_simp
                  try with_reducible rfl
                go_simp
                refine hK _ ?_
                clear hK K
                refine still2_next rfl (fun K hK => ?_)
                refine ⟨?_, ?_, ?_, ?_⟩
                rotate_left
                · go_simp
                  try with_reducible rfl
                · go_simp
                  try with_reducible rfl
                go_simp
                refine hK _ ?_
                clear hK K
                refine still2_next rfl (fun K hK => ?_)
                refine ⟨?_, ?_, ?_, ?_⟩
                rotate_left
                · go_simp
                  try with_reducible rfl
                · go_simp
                  try with_reducible rfl
                go_simp
                refine hK _ ?_
                clear hK K
                refine still2_next rfl (fun K hK => ?_)
                refine ⟨?_, ?_, ?_, ?_⟩
                rotate_left
                · go_simp
                  try with_reducible rfl
                · go_simp
                  try with_reducible rfl
                go_simp
                refine hK _ ?_
                clear hK K
                refine ⟨?_, ?_⟩
                · refine AllReady.cons rfl (fun K hK => ?_) AllReady.nil
                  go_simp
                  go_wp2_with (go_at_call 18; refine (HRUN.out _ (below_drw _)).mono ?_; rintro e W3 ⟨rfl, hb3⟩; have HB3 := Fact.mk (below_cl (below_drw wr) hb3); have hsz := HB3.out.size; clear hb3)
                  refine wpAny_take (i := 16) (v := ?_) rfl (by kernel_rfl) (by kernel_rfl) (by kernel_rfl) (fun _ _ _ h => h) (Or.inl ⟨by rfl, ?_⟩) ?_
                  rotate_left
                  · intro w
                    go_simp
                    try with_reducible rfl
                  refine wpAny_take (i := 17) (v := ?_) rfl (by kernel_rfl) (by kernel_rfl) (by kernel_rfl) (fun _ _ _ h => h) (Or.inl ⟨by rfl, ?_⟩) ?_
                  rotate_left
                  · intro w
                    go_simp
                    try with_reducible rfl
                  refine wpAny_take (i := 18) (v := ?_) rfl (by kernel_rfl) (by kernel_rfl) (by kernel_rfl) (fun _ _ _ h => h) (Or.inl ⟨by rfl, ?_⟩) ?_
                  rotate_left
                  · intro w
                    go_simp
                    try with_reducible rfl
                  refine wpAny_ready (rs := [19]) (by kernel_rfl) (by simp) ?_
                  refine AllReady.cons rfl (fun K hK => ?_) AllReady.nil
                  go_simp
                  refine hK _ _ ?_
                  clear hK K
                  refine wpAny_ready (rs := [20]) (by kernel_rfl) (by simp) ?_
                  refine AllReady.cons rfl (fun K hK => ?_) AllReady.nil
                  go_simp
                  refine hK _ _ ?_
                  clear hK K
                  refine wpAny_take (i := 21) (v := ?_) rfl (by kernel_rfl) (by kernel_rfl) (by kernel_rfl) (fun _ _ _ h => h) (Or.inl ⟨by rfl, ?_⟩) ?_
                  rotate_left
                  · intro w
                    go_simp
                    try with_reducible rfl
                  refine wpAny_done (by kernel_rfl) ?_ _
                  go_wp2_with fail
                  go_meet
                  exact ⟨rfl, _, rfl, heap_alloc_new W3 _, HB3.out.size, HB3.out.alloc HB3.out.size _⟩
                · refine wpAny_ready (rs := [15]) (by kernel_rfl) (by simp) ?_
                  refine AllReady.cons rfl (fun K hK => ?_) AllReady.nil
                  go_simp
                  go_wp2_with (go_at_call 18; refine (HRUN.out _ (below_ald _ _)).mono ?_; rintro e W3 ⟨rfl, hb3⟩; have HB3 := Fact.mk (below_cl (below_ald wr _) hb3); have hsz := HB3.out.size; have hh := (hb3.block wr.heap.size (by simp)).trans (heap_alloc_new wr _); obtain ⟨y0, y1, y2, y3, y4, y5, y6, y7, y8, y9, z0, z1, z2, z3, z4, z5, z6, z7, z8, z9⟩ := row10 hh; have HH := Fact.mk hh; clear hh; clear hb3)
                  refine wpAny_take (i := 16) (v := ?_) rfl (by kernel_rfl) (by kernel_rfl) (by kernel_rfl) (fun _ _ _ h => h) (Or.inl ⟨by rfl, ?_⟩) ?_
                  rotate_left
                  · intro w
                    go_simp
                    try with_reducible rfl
                  refine wpAny_take (i := 17) (v := ?_) rfl (by kernel_rfl) (by kernel_rfl) (by kernel_rfl) (fun _ _ _ h => h) (Or.inl ⟨by rfl, ?_⟩) ?_
                  rotate_left
                  · intro w
                    go_simp
                    try with_reducible rfl
                  refine wpAny_take (i := 18) (v := ?_) rfl (by kernel_rfl) (by kernel_rfl) (by kernel_rfl) (fun _ _ _ h => h) (Or.inl ⟨by rfl, ?_⟩) ?_
                  rotate_left
                  · intro w
                    go_simp
                    try with_reducible rfl
                  refine wpAny_ready (rs := [20]) (by kernel_rfl) (by simp) ?_
                  refine AllReady.cons rfl (fun K hK => ?_) AllReady.nil
                  go_simp
                  refine hK _ _ ?_
                  clear hK K
                  refine wpAny_take (i := 21) (v := ?_) rfl (by kernel_rfl) (by kernel_rfl) (by kernel_rfl) (fun _ _ _ h => h) (Or.inl ⟨by rfl, ?_⟩) ?_
                  rotate_left
                  · intro w
                    go_simp
                    try with_reducible rfl
                  refine wpAny_done (by kernel_rfl) ?_ _
                  go_wp2_with fail
                  go_meet
                  obtain ⟨w2, e2, h2, g2⟩ := store10 HH.out (.int .u8 b'.kind) (.bool b'.w0) (.bool b'.w1) (.bool b'.ran) (.bool b'.going) (.int .i64 b'.frm) (.int .i64 b'.et) (.int .i64 b'.cv) (.bool b'.q) (.bool b'.p)
                  rw [e2]
                  exact ⟨rfl, _, rfl, h2, Nat.le_refl _, HB3.out.trans (grown_Below g2 HB3.out.size (Nat.le_refl _))⟩
            · have hm8 : min nx 8 = 8 := by omega
              rw [hm8] at HRUN
              have e1 : (8 : Int) < (nx : Int) := by omega
              have e2 : (8 : Int) ≤ (cx : Int) := by omega
              clear hm8
              refine wp_region_head_alloc (wA := (wr.alloc (.cells #[.int .u8 0, .bool false, .bool false, .bool false, .bool false, .int .i64 0, .int .i64 0, .int .i64 0, .bool false, .bool false] 25)).drew) (p := .pointer (some ⟨wr.heap.size, 0, none⟩)) 15 6 19 rfl (by kernel_rfl) (by kernel_rfl) rfl rfl ?hAlloc ?hHead
              case hAlloc =>
                intro K a hK
                refine wpOp_step rfl (fun K' hK' => ?_)
                go_simp
                exact hK' _ _ hK
              case hHead =>
                simp only [List.take_succ_cons, List.take_zero]
                refine still2_next rfl (fun K hK => ?_)
                refine ⟨?_, ?_, ?_, ?_⟩
                rotate_left
                · go_simp
                  try with_reducible rfl
                · go_simp
                  try with_reducible rfl
                go_simp
                refine hK _ ?_
                clear hK K
                refine still2_next rfl (fun K hK => ?_)
                refine ⟨?_, ?_, ?_, ?_⟩
                rotate_left
                · go_simp
                  try with_reducible rfl
                · go_simp
                  try with_reducible rfl
                go_simp
                refine hK _ ?_
                clear hK K
                refine still2_next rfl (fun K hK => ?_)
                refine ⟨?_, ?_, ?_, ?_⟩
                rotate_left
                · go_simp
                  try with_reducible rfl
                · go_simp
                  try with_reducible rfl
                go_simp
                refine hK _ ?_
                clear hK K
                refine still2_next rfl (fun K hK => ?_)
                refine ⟨?_, ?_, ?_, ?_⟩
                rotate_left
                · go_simp
                  try with_reducible rfl
                · go_simp
                  try with_reducible rfl
                go_simp
                refine hK _ ?_
                clear hK K
                refine still2_next rfl (fun K hK => ?_)
                refine ⟨?_, ?_, ?_, ?_⟩
                rotate_left
                · go_simp
                  try with_reducible rfl
                · go_simp
                  try with_reducible rfl
                go_simp
                refine hK _ ?_
                clear hK K
                refine still2_next rfl (fun K hK => ?_)
                refine ⟨?_, ?_, ?_, ?_⟩
                rotate_left
                · go_simp
                  try with_reducible rfl
                · go_simp
                  try with_reducible rfl
                go_simp
                refine hK _ ?_
                clear hK K
                refine still2_next rfl (fun K hK => ?_)
                refine ⟨?_, ?_, ?_, ?_⟩
                rotate_left
                · go_simp
                  try with_reducible rfl
                · go_simp
                  try with_reducible rfl
                go_simp
                refine hK _ ?_
                clear hK K
                refine still2_next rfl (fun K hK => ?_)
                refine ⟨?_, ?_, ?_, ?_⟩
                rotate_left
                · go_simp
                  try with_reducible rfl
                · go_simp
                  try with_reducible rfl
                go_simp
                refine hK _ ?_
                clear hK K
                refine still2_next rfl (fun K hK => ?_)
                refine ⟨?_, ?_, ?_, ?_⟩
                rotate_left
                · go_simp
                  try with_reducible rfl
                · go_simp
                  try with_reducible rfl
                go_simp
                refine hK _ ?_
                clear hK K
                refine still2_next rfl (fun K hK => ?_)
                refine ⟨?_, ?_, ?_, ?_⟩
                rotate_left
                · go_simp
                  try with_reducible rfl
                · go_simp
                  try with_reducible rfl
                go_simp
                refine hK _ ?_
                clear hK K
                refine still2_next rfl (fun K hK => ?_)
                refine ⟨?_, ?_, ?_, ?_⟩
                rotate_left
                · go_simp
                  try with_reducible rfl
                · go_simp
                  try with_reducible rfl
                go_simp
                refine hK _ ?_
                clear hK K
                refine still2_next rfl (fun K hK => ?_)
                refine ⟨?_, ?_, ?_, ?_⟩
                rotate_left
                · go_simp
                  try with_reducible rfl
                · go_simp
                  try with_reducible rfl
                go_simp
                refine hK _ ?_
                clear hK K
                refine still2_next rfl (fun K hK => ?_)
                refine ⟨?_, ?_, ?_, ?_⟩
                rotate_left
                · go_simp
                  try with_reducible rfl
                · go_simp
                  try with_reducible rfl
                go_simp
                refine hK _ ?_
                clear hK K
                refine still2_next rfl (fun K hK => ?_)
                refine ⟨?_, ?_, ?_, ?_⟩
                rotate_left
                · go_simp
                  try with_reducible rfl
                · go_simp
                  try with_reducible rfl
                go_simp
                refine hK _ ?_
                clear hK K
                refine still2_next rfl (fun K hK => ?_)
                refine ⟨?_, ?_, ?_, ?_⟩
                rotate_left
                · go_simp
                  try with_reducible rfl
                · go_simp
                  try with_reducible rfl
                go_simp
                refine hK _ ?_
                clear hK K
                refine ⟨?_, ?_⟩
                · refine AllReady.cons rfl (fun K hK => ?_) AllReady.nil
                  go_simp
                  go_wp2_with (go_at_call 18; refine (HRUN.out _ (below_drw _)).mono ?_; rintro e W3 ⟨rfl, hb3⟩; have HB3 := Fact.mk (below_cl (below_drw wr) hb3); have hsz := HB3.out.size; clear hb3)
                  refine wpAny_take (i := 16) (v := ?_) rfl (by kernel_rfl) (by kernel_rfl) (by kernel_rfl) (fun _ _ _ h => h) (Or.inl ⟨by rfl, ?_⟩) ?_
                  rotate_left
                  · intro w
                    go_simp
                    try with_reducible rfl
                  refine wpAny_take (i := 17) (v := ?_) rfl (by kernel_rfl) (by kernel_rfl) (by kernel_rfl) (fun _ _ _ h => h) (Or.inl ⟨by rfl, ?_⟩) ?_
                  rotate_left
                  · intro w
                    go_simp
                    try with_reducible rfl
                  refine wpAny_take (i := 18) (v := ?_) rfl (by kernel_rfl) (by kernel_rfl) (by kernel_rfl) (fun _ _ _ h => h) (Or.inl ⟨by rfl, ?_⟩) ?_
                  rotate_left
                  · intro w
                    go_simp
                    try with_reducible rfl
                  refine wpAny_ready (rs := [19]) (by kernel_rfl) (by simp) ?_
                  refine AllReady.cons rfl (fun K hK => ?_) AllReady.nil
                  go_simp
                  refine hK _ _ ?_
                  clear hK K
                  refine wpAny_ready (rs := [20]) (by kernel_rfl) (by simp) ?_
                  refine AllReady.cons rfl (fun K hK => ?_) AllReady.nil
                  go_simp
                  refine hK _ _ ?_
                  clear hK K
                  refine wpAny_take (i := 21) (v := ?_) rfl (by kernel_rfl) (by kernel_rfl) (by kernel_rfl) (fun _ _ _ h => h) (Or.inl ⟨by rfl, ?_⟩) ?_
                  rotate_left
                  · intro w
                    go_simp
                    try with_reducible rfl
                  refine wpAny_done (by kernel_rfl) ?_ _
                  go_wp2_with fail
                  go_meet
                  exact ⟨rfl, _, rfl, heap_alloc_new W3 _, HB3.out.size, HB3.out.alloc HB3.out.size _⟩
                · refine wpAny_ready (rs := [15]) (by kernel_rfl) (by simp) ?_
                  refine AllReady.cons rfl (fun K hK => ?_) AllReady.nil
                  go_simp
                  go_wp2_with (go_at_call 18; refine (HRUN.out _ (below_ald _ _)).mono ?_; rintro e W3 ⟨rfl, hb3⟩; have HB3 := Fact.mk (below_cl (below_ald wr _) hb3); have hsz := HB3.out.size; have hh := (hb3.block wr.heap.size (by simp)).trans (heap_alloc_new wr _); obtain ⟨y0, y1, y2, y3, y4, y5, y6, y7, y8, y9, z0, z1, z2, z3, z4, z5, z6, z7, z8, z9⟩ := row10 hh; have HH := Fact.mk hh; clear hh; clear hb3)
                  refine wpAny_take (i := 16) (v := ?_) rfl (by kernel_rfl) (by kernel_rfl) (by kernel_rfl) (fun _ _ _ h => h) (Or.inl ⟨by rfl, ?_⟩) ?_
                  rotate_left
                  · intro w
                    go_simp
                    try with_reducible rfl
                  refine wpAny_take (i := 17) (v := ?_) rfl (by kernel_rfl) (by kernel_rfl) (by kernel_rfl) (fun _ _ _ h => h) (Or.inl ⟨by rfl, ?_⟩) ?_
                  rotate_left
                  · intro w
                    go_simp
                    try with_reducible rfl
                  refine wpAny_take (i := 18) (v := ?_) rfl (by kernel_rfl) (by kernel_rfl) (by kernel_rfl) (fun _ _ _ h => h) (Or.inl ⟨by rfl, ?_⟩) ?_
                  rotate_left
                  · intro w
                    go_simp
                    try with_reducible rfl
                  refine wpAny_ready (rs := [20]) (by kernel_rfl) (by simp) ?_
                  refine AllReady.cons rfl (fun K hK => ?_) AllReady.nil
                  go_simp
                  refine hK _ _ ?_
                  clear hK K
                  refine wpAny_take (i := 21) (v := ?_) rfl (by kernel_rfl) (by kernel_rfl) (by kernel_rfl) (fun _ _ _ h => h) (Or.inl ⟨by rfl, ?_⟩) ?_
                  rotate_left
                  · intro w
                    go_simp
                    try with_reducible rfl
                  refine wpAny_done (by kernel_rfl) ?_ _
                  go_wp2_with fail
                  go_meet
                  obtain ⟨w2, e2, h2, g2⟩ := store10 HH.out (.int .u8 b'.kind) (.bool b'.w0) (.bool b'.w1) (.bool b'.ran) (.bool b'.going) (.int .i64 b'.frm) (.int .i64 b'.et) (.int .i64 b'.cv) (.bool b'.q) (.bool b'.p)
                  rw [e2]
                  exact ⟨rfl, _, rfl, h2, Nat.le_refl _, HB3.out.trans (grown_Below g2 HB3.out.size (Nat.le_refl _))⟩
          case rest =>
            obtain ⟨rfl, g, rfl, hg, hgl, hwb⟩ := hcut
            have hbv := BK.out.below hwb
            have HG := Fact.mk hg
            have BV := Fact.mk hbv
            have BEL : Fact (Below w.heap.size w wc) := ⟨ST2.out.bel.trans (hwb.mono ST2.out.bel.size)⟩
            have hbb := HBB.out
            have hee := HEE.out
            have eqb := eq_blk b
            clear d0 d1 d2 d3 d4 d5 d6 d7 d8 d9 cl1 hwb
            cases R with
            | false =>
              rw [run_wrong (ins.take 8) now RT.out] at hbb hee
              replace hbb : b = b' := hbb
              replace hee : (160 : Int) = e' := hee
              subst hbb
              subst hee
              obtain ⟨d0, d1, d2, d3, d4, d5, d6, d7, d8, d9, -, -, -, -, -, -, -, -, -, -⟩ := row10 hg
              obtain ⟨q0, q1, q2, q3, q4, q5, q6, q7, q8, q9, f0, f1, f2, f3, f4, f5, f6, f7, f8, f9⟩ := row10 hbv
              clear hg hbv
              go_upto_region 10 with (fail)
              obtain ⟨w2, e2, h2, g2⟩ := store10 BV.out (.int .u8 b.kind) (.bool b.w0) (.bool b.w1) (.bool b.ran) (.bool b.going) (.int .i64 b.frm) (.int .i64 b.et) (.int .i64 b.cv) (.bool b.q) (.bool b.p)
              rw [e2]
              have b5 : Below w.heap.size w w2 := BEL.out.trans (grown_Below g2 BEL.out.size (Nat.le_refl _))
              have cw := cell_below b5 _ _ CW.out
              have ST5 : Fact (KeepSt w w2 w.heap.size _ (now + L) (k + 1)) := ⟨⟨⟨_, h2, RT.out⟩, b5, Nat.le_refl _, by omega, by omega⟩⟩
              clear e2 h2 g2 b5 q0 q1 q2 q3 q4 q5 q6 q7 q8 q9 f0 f1 f2 f3 f4 f5 f6 f7 f8 f9 d0 d1 d2 d3 d4 d5 d6 d7 d8 d9
              go_wp2_with fail
              go_roundw
              case rel => exact ⟨k + 1, now + L, by omega, by omega, by go_num, rfl, ST5⟩
              case measure => simp [intOf]; omega
            | true =>
              have hright := (right_run (ins.take 8) now RT.out).1
              rw [hbb] at hright
              by_cases he : e' = 0
              · subst he
                clear hbb hee
                have RT4 := Fact.mk hright
                have hrr := rblk_any b'
                unfold vBlk at hrr
                rw [hright] at hrr
                clear hright
                obtain ⟨d0, d1, d2, d3, d4, d5, d6, d7, d8, d9, -, -, -, -, -, -, -, -, -, -⟩ := row10 hg
                obtain ⟨q0, q1, q2, q3, q4, q5, q6, q7, q8, q9, -, -, -, -, -, -, -, -, -, -⟩ := row10 hbv
                clear hg hbv
                go_upto_region 10 with (fail)
                refine (hrr _).mono ?_
                rintro e W4 ⟨rfl, hb4⟩
                have hg4 := HG.out.below hb4
                have hv4 := BV.out.below hb4
                have BEL : Fact (Below w.heap.size w W4) := ⟨BEL.out.trans (hb4.mono BEL.out.size)⟩
                have HV4 := Fact.mk hv4
                clear d0 d1 d2 d3 d4 d5 d6 d7 d8 d9 q0 q1 q2 q3 q4 q5 q6 q7 q8 q9 hrr
                obtain ⟨d0, d1, d2, d3, d4, d5, d6, d7, d8, d9, -, -, -, -, -, -, -, -, -, -⟩ := row10 hg4
                obtain ⟨q0, q1, q2, q3, q4, q5, q6, q7, q8, q9, f0, f1, f2, f3, f4, f5, f6, f7, f8, f9⟩ := row10 hv4
                clear hg4 hv4 hb4
                go_upto_region 10 with (fail)
                obtain ⟨w2, e2, h2, g2⟩ := store10 HV4.out (.int .u8 b'.kind) (.bool b'.w0) (.bool b'.w1) (.bool b'.ran) (.bool b'.going) (.int .i64 b'.frm) (.int .i64 b'.et) (.int .i64 b'.cv) (.bool b'.q) (.bool b'.p)
                rw [e2]
                have b5 : Below w.heap.size w w2 := BEL.out.trans (grown_Below g2 BEL.out.size (Nat.le_refl _))
                have cw := cell_below b5 _ _ CW.out
                have ST5 : Fact (KeepSt w w2 w.heap.size _ (now + L) (k + 1)) := ⟨⟨⟨_, h2, RT4.out⟩, b5, Nat.le_refl _, by omega, by omega⟩⟩
                clear e2 h2 g2 b5 q0 q1 q2 q3 q4 q5 q6 q7 q8 q9 f0 f1 f2 f3 f4 f5 f6 f7 f8 f9 d0 d1 d2 d3 d4 d5 d6 d7 d8 d9
                go_wp2_with fail
                go_roundw
                case rel => exact ⟨k + 1, now + L, by omega, by omega, by go_num, rfl, ST5⟩
                case measure => simp [intOf]; omega
              · have hsame := run_same (b := b) (ins := ins.take 8) (now := now) (by rw [hee]; exact he)
                rw [hbb] at hsame
                clear hbb hee
                obtain rfl : b = b' := hsame.symm
                have he1 : (e' != 0) = true := by simp [he]
                have RT4 := Fact.mk hright
                have hrr := rblk_any b
                unfold vBlk at hrr
                rw [hright] at hrr
                clear hright hsame he
                obtain ⟨d0, d1, d2, d3, d4, d5, d6, d7, d8, d9, -, -, -, -, -, -, -, -, -, -⟩ := row10 hg
                obtain ⟨q0, q1, q2, q3, q4, q5, q6, q7, q8, q9, -, -, -, -, -, -, -, -, -, -⟩ := row10 hbv
                clear hg hbv
                go_upto_region 10 with (fail)
                refine (hrr _).mono ?_
                rintro e W4 ⟨rfl, hb4⟩
                have hg4 := HG.out.below hb4
                have hv4 := BV.out.below hb4
                have BEL : Fact (Below w.heap.size w W4) := ⟨BEL.out.trans (hb4.mono BEL.out.size)⟩
                have HV4 := Fact.mk hv4
                clear d0 d1 d2 d3 d4 d5 d6 d7 d8 d9 q0 q1 q2 q3 q4 q5 q6 q7 q8 q9 hrr
                obtain ⟨d0, d1, d2, d3, d4, d5, d6, d7, d8, d9, -, -, -, -, -, -, -, -, -, -⟩ := row10 hg4
                obtain ⟨q0, q1, q2, q3, q4, q5, q6, q7, q8, q9, f0, f1, f2, f3, f4, f5, f6, f7, f8, f9⟩ := row10 hv4
                clear hg4 hv4 hb4
                go_upto_region 10 with (fail)
                obtain ⟨w2, e2, h2, g2⟩ := store10 HV4.out (.int .u8 b.kind) (.bool b.w0) (.bool b.w1) (.bool b.ran) (.bool b.going) (.int .i64 b.frm) (.int .i64 b.et) (.int .i64 b.cv) (.bool b.q) (.bool b.p)
                rw [e2]
                have b5 : Below w.heap.size w w2 := BEL.out.trans (grown_Below g2 BEL.out.size (Nat.le_refl _))
                have cw := cell_below b5 _ _ CW.out
                have ST5 : Fact (KeepSt w w2 w.heap.size _ (now + L) (k + 1)) := ⟨⟨⟨_, h2, RT4.out⟩, b5, Nat.le_refl _, by omega, by omega⟩⟩
                clear e2 h2 g2 b5 q0 q1 q2 q3 q4 q5 q6 q7 q8 q9 f0 f1 f2 f3 f4 f5 f6 f7 f8 f9 d0 d1 d2 d3 d4 d5 d6 d7 d8 d9
                go_wp2_with fail
                go_roundw
                case rel => exact ⟨k + 1, now + L, by omega, by omega, by go_num, rfl, ST5⟩
                case measure => simp [intOf]; omega
        · obtain rfl : k = 40 := by omega
          have i1 : ((40 : Nat) : Int) < (ls.length : Int) := by omega
          have HB := Fact.mk hst.out.bel
          clear hst
          go_wp2_with fail
          go_meet
          exact HB.out
      · obtain rfl : k = ls.length := by omega
        have HB := Fact.mk hst.out.bel
        clear hst
        go_wp2_with fail
        go_meet
        exact HB.out
  case rest =>
    have HC := Fact.mk hcut
    clear hcut
    go_wp2_with fail
    refine (N9.out _).mono ?_
    rintro e W2 ⟨rfl, hb1⟩
    have B1 := Fact.mk (HC.out.trans (hb1.mono HC.out.size))
    clear hb1 N9
    go_wp2_with fail
    refine (N10.out _).mono ?_
    rintro e W3 ⟨rfl, hb2⟩
    have B2 := Fact.mk hb2
    clear hb2 N10
    have ST : Fact (LatSt w (W3.alloc (.cells #[.int .u8 10, .bool false, .bool false, .bool false, .bool false, .int .i64 0, .int .i64 0, .int .i64 0, .bool false, .bool false] 25)) W2.heap.size W3.heap.size false false) := by
      have h1 := one_block W2 (.cells #[.int .u8 9, .bool false, .bool false, .bool false, .bool false, .int .i64 0, .int .i64 0, .int .i64 0, .bool false, .bool false] 25)
      have h2 := one_block W3 (.cells #[.int .u8 10, .bool false, .bool false, .bool false, .bool false, .int .i64 0, .int .i64 0, .int .i64 0, .bool false, .bool false] 25)
      have hs : W2.heap.size + 1 ≤ W3.heap.size := by have := B2.out.size; simpa using this
      have hu : BlkAt (W2.alloc (.cells #[.int .u8 9, .bool false, .bool false, .bool false, .bool false, .int .i64 0, .int .i64 0, .int .i64 0, .bool false, .bool false] 25)) W2.heap.size (ltB 9 false) := h1.2.1
      exact ⟨⟨(hu.below B2.out).below h2.1, h2.2.1, (B1.out.trans ((h1.1.trans (B2.out.mono h1.1.size)).mono B1.out.size)).trans (h2.1.mono (by have := B1.out.size; omega)), B1.out.size, by omega⟩⟩
    clear B1 B2 HC
    go_wp2_with fail
    go_loopw [16, 17, 18] (fun sh so i wr => ∃ (k : Nat) (held loose : Bool), k ≤ xs.length ∧ k ≤ 40 ∧ i = .int .i64 k ∧ sh = .bool held ∧ so = .bool loose ∧ Fact (LatSt w wr W2.heap.size W3.heap.size held loose)) (fun _ _ i _ => 40 - (intOf i).toNat)
    case atStart => exact ⟨0, false, false, Nat.zero_le _, Nat.zero_le _, rfl, rfl, rfl, ST⟩
    case round =>
      obtain ⟨k, held, loose, hk, hk6, rfl, rfl, rfl, hst⟩ := hrel
      have HB := Fact.mk hst.out.bel
      by_cases hlt : k < xs.length
      · by_cases h60 : k < 40
        · obtain ⟨bi, oi, ci', e, ci, cj⟩ := (HX.out.below HB.out).at2 k hlt
          cases e
          obtain ⟨⟨s, r⟩, hx⟩ : ∃ x, xs[k] = x := ⟨_, rfl⟩
          rw [hx] at ci cj
          have i1 : (k : Int) < (xs.length : Int) := by omega
          have i2 : (k : Int) < 40 := by omega
          have BU := Fact.mk hst.out.up
          have BD := Fact.mk hst.out.down
          have lV : w.heap.size ≤ W2.heap.size := hst.out.lo
          have HNE := Fact.mk hst.out.ne
          clear hx hst
          cases s with
          | true =>
            cases r with
            | true =>
              cases held with
              | true =>
                cases loose with
                | true =>
                  have hrun1 := run_sr true true true
                  have hrun2 := run_rs true true true
                  have jr1 := lrun_new BU.out hrun1 (outs_sr _) (by simp)
                  have JR1 := Fact.mk jr1
                  have RUN2 := Fact.mk hrun2
                  clear hrun1 jr1 hrun2
                  go_wp2_with fail
                  refine JR1.out.mono ?_
                  rintro e W4 ⟨v1, rfl, rd1, k3, g3, fr3⟩
                  have d3 := BD.out.other g3 (Nat.ne_of_gt HNE.out)
                  have D3 := Fact.mk d3
                  have K3 := Fact.mk k3
                  have RD1 := Fact.mk rd1
                  have B3 := Fact.mk (HB.out.trans (grown_Below g3 HB.out.size lV))
                  have FR3 := Fact.mk (show v1.ownBlock ≠ some W3.heap.size from LrunPost.fresh_ne fr3 BD.out)
                  clear d3 k3 rd1 g3 fr3 JR1 ci cj
                  go_wp2_with fail
                  refine (lrun_new D3.out RUN2.out (outs_rs _) (by simp)).mono ?_
                  rintro e W5 ⟨v2, rfl, rd2, k4, g4, -⟩
                  have u4 := K3.out.other g4 (Nat.ne_of_lt HNE.out)
                  have rd1 := RD1.out.grown g4 FR3.out
                  obtain ⟨y0, y1, y2, rfl, yc⟩ := rd2.one64
                  obtain ⟨z0, z1, z2, rfl, zc⟩ := rd1.one64
                  have yc0 : W5.cell? ⟨y0, y1, none⟩ = some (.int .i64 0) := yc
                  have zc0 : W5.cell? ⟨z0, z1, none⟩ = some (.int .i64 1) := zc
                  have b4 : Below w.heap.size w W5 := B3.out.trans (grown_Below g4 B3.out.size (Nat.le_trans lV (Nat.le_of_lt HNE.out)))
                  have ST4 : Fact (LatSt w W5 W2.heap.size W3.heap.size true false) := ⟨⟨u4, k4, b4, lV, HNE.out⟩⟩
                  clear g4 k4 rd2 rd1 b4 u4 yc zc
                  go_wp2_with fail
                  go_roundw
                  case rel => exact ⟨k + 1, true, false, by omega, by omega, by go_num, rfl, rfl, ST4⟩
                  case measure => simp [intOf]; omega
                | false =>
                  have hrun1 := run_sr true true true
                  have hrun2 := run_rs false true true
                  have jr1 := lrun_new BU.out hrun1 (outs_sr _) (by simp)
                  have JR1 := Fact.mk jr1
                  have RUN2 := Fact.mk hrun2
                  clear hrun1 jr1 hrun2
                  go_wp2_with fail
                  refine JR1.out.mono ?_
                  rintro e W4 ⟨v1, rfl, rd1, k3, g3, fr3⟩
                  have d3 := BD.out.other g3 (Nat.ne_of_gt HNE.out)
                  have D3 := Fact.mk d3
                  have K3 := Fact.mk k3
                  have RD1 := Fact.mk rd1
                  have B3 := Fact.mk (HB.out.trans (grown_Below g3 HB.out.size lV))
                  have FR3 := Fact.mk (show v1.ownBlock ≠ some W3.heap.size from LrunPost.fresh_ne fr3 BD.out)
                  clear d3 k3 rd1 g3 fr3 JR1 ci cj
                  go_wp2_with fail
                  refine (lrun_new D3.out RUN2.out (outs_rs _) (by simp)).mono ?_
                  rintro e W5 ⟨v2, rfl, rd2, k4, g4, -⟩
                  have u4 := K3.out.other g4 (Nat.ne_of_lt HNE.out)
                  have rd1 := RD1.out.grown g4 FR3.out
                  obtain ⟨y0, y1, y2, rfl, yc⟩ := rd2.one64
                  obtain ⟨z0, z1, z2, rfl, zc⟩ := rd1.one64
                  have yc0 : W5.cell? ⟨y0, y1, none⟩ = some (.int .i64 0) := yc
                  have zc0 : W5.cell? ⟨z0, z1, none⟩ = some (.int .i64 1) := zc
                  have b4 : Below w.heap.size w W5 := B3.out.trans (grown_Below g4 B3.out.size (Nat.le_trans lV (Nat.le_of_lt HNE.out)))
                  have ST4 : Fact (LatSt w W5 W2.heap.size W3.heap.size true false) := ⟨⟨u4, k4, b4, lV, HNE.out⟩⟩
                  clear g4 k4 rd2 rd1 b4 u4 yc zc
                  go_wp2_with fail
                  go_roundw
                  case rel => exact ⟨k + 1, true, false, by omega, by omega, by go_num, rfl, rfl, ST4⟩
                  case measure => simp [intOf]; omega
              | false =>
                cases loose with
                | true =>
                  have hrun1 := run_sr false true true
                  have hrun2 := run_rs true true true
                  have jr1 := lrun_new BU.out hrun1 (outs_sr _) (by simp)
                  have JR1 := Fact.mk jr1
                  have RUN2 := Fact.mk hrun2
                  clear hrun1 jr1 hrun2
                  go_wp2_with fail
                  refine JR1.out.mono ?_
                  rintro e W4 ⟨v1, rfl, rd1, k3, g3, fr3⟩
                  have d3 := BD.out.other g3 (Nat.ne_of_gt HNE.out)
                  have D3 := Fact.mk d3
                  have K3 := Fact.mk k3
                  have RD1 := Fact.mk rd1
                  have B3 := Fact.mk (HB.out.trans (grown_Below g3 HB.out.size lV))
                  have FR3 := Fact.mk (show v1.ownBlock ≠ some W3.heap.size from LrunPost.fresh_ne fr3 BD.out)
                  clear d3 k3 rd1 g3 fr3 JR1 ci cj
                  go_wp2_with fail
                  refine (lrun_new D3.out RUN2.out (outs_rs _) (by simp)).mono ?_
                  rintro e W5 ⟨v2, rfl, rd2, k4, g4, -⟩
                  have u4 := K3.out.other g4 (Nat.ne_of_lt HNE.out)
                  have rd1 := RD1.out.grown g4 FR3.out
                  obtain ⟨y0, y1, y2, rfl, yc⟩ := rd2.one64
                  obtain ⟨z0, z1, z2, rfl, zc⟩ := rd1.one64
                  have yc0 : W5.cell? ⟨y0, y1, none⟩ = some (.int .i64 0) := yc
                  have zc0 : W5.cell? ⟨z0, z1, none⟩ = some (.int .i64 1) := zc
                  have b4 : Below w.heap.size w W5 := B3.out.trans (grown_Below g4 B3.out.size (Nat.le_trans lV (Nat.le_of_lt HNE.out)))
                  have ST4 : Fact (LatSt w W5 W2.heap.size W3.heap.size true false) := ⟨⟨u4, k4, b4, lV, HNE.out⟩⟩
                  clear g4 k4 rd2 rd1 b4 u4 yc zc
                  go_wp2_with fail
                  go_roundw
                  case rel => exact ⟨k + 1, true, false, by omega, by omega, by go_num, rfl, rfl, ST4⟩
                  case measure => simp [intOf]; omega
                | false =>
                  have hrun1 := run_sr false true true
                  have hrun2 := run_rs false true true
                  have jr1 := lrun_new BU.out hrun1 (outs_sr _) (by simp)
                  have JR1 := Fact.mk jr1
                  have RUN2 := Fact.mk hrun2
                  clear hrun1 jr1 hrun2
                  go_wp2_with fail
                  refine JR1.out.mono ?_
                  rintro e W4 ⟨v1, rfl, rd1, k3, g3, fr3⟩
                  have d3 := BD.out.other g3 (Nat.ne_of_gt HNE.out)
                  have D3 := Fact.mk d3
                  have K3 := Fact.mk k3
                  have RD1 := Fact.mk rd1
                  have B3 := Fact.mk (HB.out.trans (grown_Below g3 HB.out.size lV))
                  have FR3 := Fact.mk (show v1.ownBlock ≠ some W3.heap.size from LrunPost.fresh_ne fr3 BD.out)
                  clear d3 k3 rd1 g3 fr3 JR1 ci cj
                  go_wp2_with fail
                  refine (lrun_new D3.out RUN2.out (outs_rs _) (by simp)).mono ?_
                  rintro e W5 ⟨v2, rfl, rd2, k4, g4, -⟩
                  have u4 := K3.out.other g4 (Nat.ne_of_lt HNE.out)
                  have rd1 := RD1.out.grown g4 FR3.out
                  obtain ⟨y0, y1, y2, rfl, yc⟩ := rd2.one64
                  obtain ⟨z0, z1, z2, rfl, zc⟩ := rd1.one64
                  have yc0 : W5.cell? ⟨y0, y1, none⟩ = some (.int .i64 0) := yc
                  have zc0 : W5.cell? ⟨z0, z1, none⟩ = some (.int .i64 1) := zc
                  have b4 : Below w.heap.size w W5 := B3.out.trans (grown_Below g4 B3.out.size (Nat.le_trans lV (Nat.le_of_lt HNE.out)))
                  have ST4 : Fact (LatSt w W5 W2.heap.size W3.heap.size true false) := ⟨⟨u4, k4, b4, lV, HNE.out⟩⟩
                  clear g4 k4 rd2 rd1 b4 u4 yc zc
                  go_wp2_with fail
                  go_roundw
                  case rel => exact ⟨k + 1, true, false, by omega, by omega, by go_num, rfl, rfl, ST4⟩
                  case measure => simp [intOf]; omega
            | false =>
              cases held with
              | true =>
                cases loose with
                | true =>
                  have hrun1 := run_sr true true false
                  have hrun2 := run_rs true true false
                  have jr1 := lrun_new BU.out hrun1 (outs_sr _) (by simp)
                  have JR1 := Fact.mk jr1
                  have RUN2 := Fact.mk hrun2
                  clear hrun1 jr1 hrun2
                  go_wp2_with fail
                  refine JR1.out.mono ?_
                  rintro e W4 ⟨v1, rfl, rd1, k3, g3, fr3⟩
                  have d3 := BD.out.other g3 (Nat.ne_of_gt HNE.out)
                  have D3 := Fact.mk d3
                  have K3 := Fact.mk k3
                  have RD1 := Fact.mk rd1
                  have B3 := Fact.mk (HB.out.trans (grown_Below g3 HB.out.size lV))
                  have FR3 := Fact.mk (show v1.ownBlock ≠ some W3.heap.size from LrunPost.fresh_ne fr3 BD.out)
                  clear d3 k3 rd1 g3 fr3 JR1 ci cj
                  go_wp2_with fail
                  refine (lrun_new D3.out RUN2.out (outs_rs _) (by simp)).mono ?_
                  rintro e W5 ⟨v2, rfl, rd2, k4, g4, -⟩
                  have u4 := K3.out.other g4 (Nat.ne_of_lt HNE.out)
                  have rd1 := RD1.out.grown g4 FR3.out
                  obtain ⟨y0, y1, y2, rfl, yc⟩ := rd2.one64
                  obtain ⟨z0, z1, z2, rfl, zc⟩ := rd1.one64
                  have yc0 : W5.cell? ⟨y0, y1, none⟩ = some (.int .i64 1) := yc
                  have zc0 : W5.cell? ⟨z0, z1, none⟩ = some (.int .i64 1) := zc
                  have b4 : Below w.heap.size w W5 := B3.out.trans (grown_Below g4 B3.out.size (Nat.le_trans lV (Nat.le_of_lt HNE.out)))
                  have ST4 : Fact (LatSt w W5 W2.heap.size W3.heap.size true true) := ⟨⟨u4, k4, b4, lV, HNE.out⟩⟩
                  clear g4 k4 rd2 rd1 b4 u4 yc zc
                  go_wp2_with fail
                  go_roundw
                  case rel => exact ⟨k + 1, true, true, by omega, by omega, by go_num, rfl, rfl, ST4⟩
                  case measure => simp [intOf]; omega
                | false =>
                  have hrun1 := run_sr true true false
                  have hrun2 := run_rs false true false
                  have jr1 := lrun_new BU.out hrun1 (outs_sr _) (by simp)
                  have JR1 := Fact.mk jr1
                  have RUN2 := Fact.mk hrun2
                  clear hrun1 jr1 hrun2
                  go_wp2_with fail
                  refine JR1.out.mono ?_
                  rintro e W4 ⟨v1, rfl, rd1, k3, g3, fr3⟩
                  have d3 := BD.out.other g3 (Nat.ne_of_gt HNE.out)
                  have D3 := Fact.mk d3
                  have K3 := Fact.mk k3
                  have RD1 := Fact.mk rd1
                  have B3 := Fact.mk (HB.out.trans (grown_Below g3 HB.out.size lV))
                  have FR3 := Fact.mk (show v1.ownBlock ≠ some W3.heap.size from LrunPost.fresh_ne fr3 BD.out)
                  clear d3 k3 rd1 g3 fr3 JR1 ci cj
                  go_wp2_with fail
                  refine (lrun_new D3.out RUN2.out (outs_rs _) (by simp)).mono ?_
                  rintro e W5 ⟨v2, rfl, rd2, k4, g4, -⟩
                  have u4 := K3.out.other g4 (Nat.ne_of_lt HNE.out)
                  have rd1 := RD1.out.grown g4 FR3.out
                  obtain ⟨y0, y1, y2, rfl, yc⟩ := rd2.one64
                  obtain ⟨z0, z1, z2, rfl, zc⟩ := rd1.one64
                  have yc0 : W5.cell? ⟨y0, y1, none⟩ = some (.int .i64 1) := yc
                  have zc0 : W5.cell? ⟨z0, z1, none⟩ = some (.int .i64 1) := zc
                  have b4 : Below w.heap.size w W5 := B3.out.trans (grown_Below g4 B3.out.size (Nat.le_trans lV (Nat.le_of_lt HNE.out)))
                  have ST4 : Fact (LatSt w W5 W2.heap.size W3.heap.size true true) := ⟨⟨u4, k4, b4, lV, HNE.out⟩⟩
                  clear g4 k4 rd2 rd1 b4 u4 yc zc
                  go_wp2_with fail
                  go_roundw
                  case rel => exact ⟨k + 1, true, true, by omega, by omega, by go_num, rfl, rfl, ST4⟩
                  case measure => simp [intOf]; omega
              | false =>
                cases loose with
                | true =>
                  have hrun1 := run_sr false true false
                  have hrun2 := run_rs true true false
                  have jr1 := lrun_new BU.out hrun1 (outs_sr _) (by simp)
                  have JR1 := Fact.mk jr1
                  have RUN2 := Fact.mk hrun2
                  clear hrun1 jr1 hrun2
                  go_wp2_with fail
                  refine JR1.out.mono ?_
                  rintro e W4 ⟨v1, rfl, rd1, k3, g3, fr3⟩
                  have d3 := BD.out.other g3 (Nat.ne_of_gt HNE.out)
                  have D3 := Fact.mk d3
                  have K3 := Fact.mk k3
                  have RD1 := Fact.mk rd1
                  have B3 := Fact.mk (HB.out.trans (grown_Below g3 HB.out.size lV))
                  have FR3 := Fact.mk (show v1.ownBlock ≠ some W3.heap.size from LrunPost.fresh_ne fr3 BD.out)
                  clear d3 k3 rd1 g3 fr3 JR1 ci cj
                  go_wp2_with fail
                  refine (lrun_new D3.out RUN2.out (outs_rs _) (by simp)).mono ?_
                  rintro e W5 ⟨v2, rfl, rd2, k4, g4, -⟩
                  have u4 := K3.out.other g4 (Nat.ne_of_lt HNE.out)
                  have rd1 := RD1.out.grown g4 FR3.out
                  obtain ⟨y0, y1, y2, rfl, yc⟩ := rd2.one64
                  obtain ⟨z0, z1, z2, rfl, zc⟩ := rd1.one64
                  have yc0 : W5.cell? ⟨y0, y1, none⟩ = some (.int .i64 1) := yc
                  have zc0 : W5.cell? ⟨z0, z1, none⟩ = some (.int .i64 1) := zc
                  have b4 : Below w.heap.size w W5 := B3.out.trans (grown_Below g4 B3.out.size (Nat.le_trans lV (Nat.le_of_lt HNE.out)))
                  have ST4 : Fact (LatSt w W5 W2.heap.size W3.heap.size true true) := ⟨⟨u4, k4, b4, lV, HNE.out⟩⟩
                  clear g4 k4 rd2 rd1 b4 u4 yc zc
                  go_wp2_with fail
                  go_roundw
                  case rel => exact ⟨k + 1, true, true, by omega, by omega, by go_num, rfl, rfl, ST4⟩
                  case measure => simp [intOf]; omega
                | false =>
                  have hrun1 := run_sr false true false
                  have hrun2 := run_rs false true false
                  have jr1 := lrun_new BU.out hrun1 (outs_sr _) (by simp)
                  have JR1 := Fact.mk jr1
                  have RUN2 := Fact.mk hrun2
                  clear hrun1 jr1 hrun2
                  go_wp2_with fail
                  refine JR1.out.mono ?_
                  rintro e W4 ⟨v1, rfl, rd1, k3, g3, fr3⟩
                  have d3 := BD.out.other g3 (Nat.ne_of_gt HNE.out)
                  have D3 := Fact.mk d3
                  have K3 := Fact.mk k3
                  have RD1 := Fact.mk rd1
                  have B3 := Fact.mk (HB.out.trans (grown_Below g3 HB.out.size lV))
                  have FR3 := Fact.mk (show v1.ownBlock ≠ some W3.heap.size from LrunPost.fresh_ne fr3 BD.out)
                  clear d3 k3 rd1 g3 fr3 JR1 ci cj
                  go_wp2_with fail
                  refine (lrun_new D3.out RUN2.out (outs_rs _) (by simp)).mono ?_
                  rintro e W5 ⟨v2, rfl, rd2, k4, g4, -⟩
                  have u4 := K3.out.other g4 (Nat.ne_of_lt HNE.out)
                  have rd1 := RD1.out.grown g4 FR3.out
                  obtain ⟨y0, y1, y2, rfl, yc⟩ := rd2.one64
                  obtain ⟨z0, z1, z2, rfl, zc⟩ := rd1.one64
                  have yc0 : W5.cell? ⟨y0, y1, none⟩ = some (.int .i64 1) := yc
                  have zc0 : W5.cell? ⟨z0, z1, none⟩ = some (.int .i64 1) := zc
                  have b4 : Below w.heap.size w W5 := B3.out.trans (grown_Below g4 B3.out.size (Nat.le_trans lV (Nat.le_of_lt HNE.out)))
                  have ST4 : Fact (LatSt w W5 W2.heap.size W3.heap.size true true) := ⟨⟨u4, k4, b4, lV, HNE.out⟩⟩
                  clear g4 k4 rd2 rd1 b4 u4 yc zc
                  go_wp2_with fail
                  go_roundw
                  case rel => exact ⟨k + 1, true, true, by omega, by omega, by go_num, rfl, rfl, ST4⟩
                  case measure => simp [intOf]; omega
          | false =>
            cases r with
            | true =>
              cases held with
              | true =>
                cases loose with
                | true =>
                  have hrun1 := run_sr true false true
                  have hrun2 := run_rs true false true
                  have jr1 := lrun_new BU.out hrun1 (outs_sr _) (by simp)
                  have JR1 := Fact.mk jr1
                  have RUN2 := Fact.mk hrun2
                  clear hrun1 jr1 hrun2
                  go_wp2_with fail
                  refine JR1.out.mono ?_
                  rintro e W4 ⟨v1, rfl, rd1, k3, g3, fr3⟩
                  have d3 := BD.out.other g3 (Nat.ne_of_gt HNE.out)
                  have D3 := Fact.mk d3
                  have K3 := Fact.mk k3
                  have RD1 := Fact.mk rd1
                  have B3 := Fact.mk (HB.out.trans (grown_Below g3 HB.out.size lV))
                  have FR3 := Fact.mk (show v1.ownBlock ≠ some W3.heap.size from LrunPost.fresh_ne fr3 BD.out)
                  clear d3 k3 rd1 g3 fr3 JR1 ci cj
                  go_wp2_with fail
                  refine (lrun_new D3.out RUN2.out (outs_rs _) (by simp)).mono ?_
                  rintro e W5 ⟨v2, rfl, rd2, k4, g4, -⟩
                  have u4 := K3.out.other g4 (Nat.ne_of_lt HNE.out)
                  have rd1 := RD1.out.grown g4 FR3.out
                  obtain ⟨y0, y1, y2, rfl, yc⟩ := rd2.one64
                  obtain ⟨z0, z1, z2, rfl, zc⟩ := rd1.one64
                  have yc0 : W5.cell? ⟨y0, y1, none⟩ = some (.int .i64 0) := yc
                  have zc0 : W5.cell? ⟨z0, z1, none⟩ = some (.int .i64 0) := zc
                  have b4 : Below w.heap.size w W5 := B3.out.trans (grown_Below g4 B3.out.size (Nat.le_trans lV (Nat.le_of_lt HNE.out)))
                  have ST4 : Fact (LatSt w W5 W2.heap.size W3.heap.size false false) := ⟨⟨u4, k4, b4, lV, HNE.out⟩⟩
                  clear g4 k4 rd2 rd1 b4 u4 yc zc
                  go_wp2_with fail
                  go_roundw
                  case rel => exact ⟨k + 1, false, false, by omega, by omega, by go_num, rfl, rfl, ST4⟩
                  case measure => simp [intOf]; omega
                | false =>
                  have hrun1 := run_sr true false true
                  have hrun2 := run_rs false false true
                  have jr1 := lrun_new BU.out hrun1 (outs_sr _) (by simp)
                  have JR1 := Fact.mk jr1
                  have RUN2 := Fact.mk hrun2
                  clear hrun1 jr1 hrun2
                  go_wp2_with fail
                  refine JR1.out.mono ?_
                  rintro e W4 ⟨v1, rfl, rd1, k3, g3, fr3⟩
                  have d3 := BD.out.other g3 (Nat.ne_of_gt HNE.out)
                  have D3 := Fact.mk d3
                  have K3 := Fact.mk k3
                  have RD1 := Fact.mk rd1
                  have B3 := Fact.mk (HB.out.trans (grown_Below g3 HB.out.size lV))
                  have FR3 := Fact.mk (show v1.ownBlock ≠ some W3.heap.size from LrunPost.fresh_ne fr3 BD.out)
                  clear d3 k3 rd1 g3 fr3 JR1 ci cj
                  go_wp2_with fail
                  refine (lrun_new D3.out RUN2.out (outs_rs _) (by simp)).mono ?_
                  rintro e W5 ⟨v2, rfl, rd2, k4, g4, -⟩
                  have u4 := K3.out.other g4 (Nat.ne_of_lt HNE.out)
                  have rd1 := RD1.out.grown g4 FR3.out
                  obtain ⟨y0, y1, y2, rfl, yc⟩ := rd2.one64
                  obtain ⟨z0, z1, z2, rfl, zc⟩ := rd1.one64
                  have yc0 : W5.cell? ⟨y0, y1, none⟩ = some (.int .i64 0) := yc
                  have zc0 : W5.cell? ⟨z0, z1, none⟩ = some (.int .i64 0) := zc
                  have b4 : Below w.heap.size w W5 := B3.out.trans (grown_Below g4 B3.out.size (Nat.le_trans lV (Nat.le_of_lt HNE.out)))
                  have ST4 : Fact (LatSt w W5 W2.heap.size W3.heap.size false false) := ⟨⟨u4, k4, b4, lV, HNE.out⟩⟩
                  clear g4 k4 rd2 rd1 b4 u4 yc zc
                  go_wp2_with fail
                  go_roundw
                  case rel => exact ⟨k + 1, false, false, by omega, by omega, by go_num, rfl, rfl, ST4⟩
                  case measure => simp [intOf]; omega
              | false =>
                cases loose with
                | true =>
                  have hrun1 := run_sr false false true
                  have hrun2 := run_rs true false true
                  have jr1 := lrun_new BU.out hrun1 (outs_sr _) (by simp)
                  have JR1 := Fact.mk jr1
                  have RUN2 := Fact.mk hrun2
                  clear hrun1 jr1 hrun2
                  go_wp2_with fail
                  refine JR1.out.mono ?_
                  rintro e W4 ⟨v1, rfl, rd1, k3, g3, fr3⟩
                  have d3 := BD.out.other g3 (Nat.ne_of_gt HNE.out)
                  have D3 := Fact.mk d3
                  have K3 := Fact.mk k3
                  have RD1 := Fact.mk rd1
                  have B3 := Fact.mk (HB.out.trans (grown_Below g3 HB.out.size lV))
                  have FR3 := Fact.mk (show v1.ownBlock ≠ some W3.heap.size from LrunPost.fresh_ne fr3 BD.out)
                  clear d3 k3 rd1 g3 fr3 JR1 ci cj
                  go_wp2_with fail
                  refine (lrun_new D3.out RUN2.out (outs_rs _) (by simp)).mono ?_
                  rintro e W5 ⟨v2, rfl, rd2, k4, g4, -⟩
                  have u4 := K3.out.other g4 (Nat.ne_of_lt HNE.out)
                  have rd1 := RD1.out.grown g4 FR3.out
                  obtain ⟨y0, y1, y2, rfl, yc⟩ := rd2.one64
                  obtain ⟨z0, z1, z2, rfl, zc⟩ := rd1.one64
                  have yc0 : W5.cell? ⟨y0, y1, none⟩ = some (.int .i64 0) := yc
                  have zc0 : W5.cell? ⟨z0, z1, none⟩ = some (.int .i64 0) := zc
                  have b4 : Below w.heap.size w W5 := B3.out.trans (grown_Below g4 B3.out.size (Nat.le_trans lV (Nat.le_of_lt HNE.out)))
                  have ST4 : Fact (LatSt w W5 W2.heap.size W3.heap.size false false) := ⟨⟨u4, k4, b4, lV, HNE.out⟩⟩
                  clear g4 k4 rd2 rd1 b4 u4 yc zc
                  go_wp2_with fail
                  go_roundw
                  case rel => exact ⟨k + 1, false, false, by omega, by omega, by go_num, rfl, rfl, ST4⟩
                  case measure => simp [intOf]; omega
                | false =>
                  have hrun1 := run_sr false false true
                  have hrun2 := run_rs false false true
                  have jr1 := lrun_new BU.out hrun1 (outs_sr _) (by simp)
                  have JR1 := Fact.mk jr1
                  have RUN2 := Fact.mk hrun2
                  clear hrun1 jr1 hrun2
                  go_wp2_with fail
                  refine JR1.out.mono ?_
                  rintro e W4 ⟨v1, rfl, rd1, k3, g3, fr3⟩
                  have d3 := BD.out.other g3 (Nat.ne_of_gt HNE.out)
                  have D3 := Fact.mk d3
                  have K3 := Fact.mk k3
                  have RD1 := Fact.mk rd1
                  have B3 := Fact.mk (HB.out.trans (grown_Below g3 HB.out.size lV))
                  have FR3 := Fact.mk (show v1.ownBlock ≠ some W3.heap.size from LrunPost.fresh_ne fr3 BD.out)
                  clear d3 k3 rd1 g3 fr3 JR1 ci cj
                  go_wp2_with fail
                  refine (lrun_new D3.out RUN2.out (outs_rs _) (by simp)).mono ?_
                  rintro e W5 ⟨v2, rfl, rd2, k4, g4, -⟩
                  have u4 := K3.out.other g4 (Nat.ne_of_lt HNE.out)
                  have rd1 := RD1.out.grown g4 FR3.out
                  obtain ⟨y0, y1, y2, rfl, yc⟩ := rd2.one64
                  obtain ⟨z0, z1, z2, rfl, zc⟩ := rd1.one64
                  have yc0 : W5.cell? ⟨y0, y1, none⟩ = some (.int .i64 0) := yc
                  have zc0 : W5.cell? ⟨z0, z1, none⟩ = some (.int .i64 0) := zc
                  have b4 : Below w.heap.size w W5 := B3.out.trans (grown_Below g4 B3.out.size (Nat.le_trans lV (Nat.le_of_lt HNE.out)))
                  have ST4 : Fact (LatSt w W5 W2.heap.size W3.heap.size false false) := ⟨⟨u4, k4, b4, lV, HNE.out⟩⟩
                  clear g4 k4 rd2 rd1 b4 u4 yc zc
                  go_wp2_with fail
                  go_roundw
                  case rel => exact ⟨k + 1, false, false, by omega, by omega, by go_num, rfl, rfl, ST4⟩
                  case measure => simp [intOf]; omega
            | false =>
              cases held with
              | true =>
                cases loose with
                | true =>
                  have hrun1 := run_sr true false false
                  have hrun2 := run_rs true false false
                  have jr1 := lrun_new BU.out hrun1 (outs_sr _) (by simp)
                  have JR1 := Fact.mk jr1
                  have RUN2 := Fact.mk hrun2
                  clear hrun1 jr1 hrun2
                  go_wp2_with fail
                  refine JR1.out.mono ?_
                  rintro e W4 ⟨v1, rfl, rd1, k3, g3, fr3⟩
                  have d3 := BD.out.other g3 (Nat.ne_of_gt HNE.out)
                  have D3 := Fact.mk d3
                  have K3 := Fact.mk k3
                  have RD1 := Fact.mk rd1
                  have B3 := Fact.mk (HB.out.trans (grown_Below g3 HB.out.size lV))
                  have FR3 := Fact.mk (show v1.ownBlock ≠ some W3.heap.size from LrunPost.fresh_ne fr3 BD.out)
                  clear d3 k3 rd1 g3 fr3 JR1 ci cj
                  go_wp2_with fail
                  refine (lrun_new D3.out RUN2.out (outs_rs _) (by simp)).mono ?_
                  rintro e W5 ⟨v2, rfl, rd2, k4, g4, -⟩
                  have u4 := K3.out.other g4 (Nat.ne_of_lt HNE.out)
                  have rd1 := RD1.out.grown g4 FR3.out
                  obtain ⟨y0, y1, y2, rfl, yc⟩ := rd2.one64
                  obtain ⟨z0, z1, z2, rfl, zc⟩ := rd1.one64
                  have yc0 : W5.cell? ⟨y0, y1, none⟩ = some (.int .i64 1) := yc
                  have zc0 : W5.cell? ⟨z0, z1, none⟩ = some (.int .i64 1) := zc
                  have b4 : Below w.heap.size w W5 := B3.out.trans (grown_Below g4 B3.out.size (Nat.le_trans lV (Nat.le_of_lt HNE.out)))
                  have ST4 : Fact (LatSt w W5 W2.heap.size W3.heap.size true true) := ⟨⟨u4, k4, b4, lV, HNE.out⟩⟩
                  clear g4 k4 rd2 rd1 b4 u4 yc zc
                  go_wp2_with fail
                  go_roundw
                  case rel => exact ⟨k + 1, true, true, by omega, by omega, by go_num, rfl, rfl, ST4⟩
                  case measure => simp [intOf]; omega
                | false =>
                  have hrun1 := run_sr true false false
                  have hrun2 := run_rs false false false
                  have jr1 := lrun_new BU.out hrun1 (outs_sr _) (by simp)
                  have JR1 := Fact.mk jr1
                  have RUN2 := Fact.mk hrun2
                  clear hrun1 jr1 hrun2
                  go_wp2_with fail
                  refine JR1.out.mono ?_
                  rintro e W4 ⟨v1, rfl, rd1, k3, g3, fr3⟩
                  have d3 := BD.out.other g3 (Nat.ne_of_gt HNE.out)
                  have D3 := Fact.mk d3
                  have K3 := Fact.mk k3
                  have RD1 := Fact.mk rd1
                  have B3 := Fact.mk (HB.out.trans (grown_Below g3 HB.out.size lV))
                  have FR3 := Fact.mk (show v1.ownBlock ≠ some W3.heap.size from LrunPost.fresh_ne fr3 BD.out)
                  clear d3 k3 rd1 g3 fr3 JR1 ci cj
                  go_wp2_with fail
                  refine (lrun_new D3.out RUN2.out (outs_rs _) (by simp)).mono ?_
                  rintro e W5 ⟨v2, rfl, rd2, k4, g4, -⟩
                  have u4 := K3.out.other g4 (Nat.ne_of_lt HNE.out)
                  have rd1 := RD1.out.grown g4 FR3.out
                  obtain ⟨y0, y1, y2, rfl, yc⟩ := rd2.one64
                  obtain ⟨z0, z1, z2, rfl, zc⟩ := rd1.one64
                  have yc0 : W5.cell? ⟨y0, y1, none⟩ = some (.int .i64 0) := yc
                  have zc0 : W5.cell? ⟨z0, z1, none⟩ = some (.int .i64 1) := zc
                  have b4 : Below w.heap.size w W5 := B3.out.trans (grown_Below g4 B3.out.size (Nat.le_trans lV (Nat.le_of_lt HNE.out)))
                  have ST4 : Fact (LatSt w W5 W2.heap.size W3.heap.size true false) := ⟨⟨u4, k4, b4, lV, HNE.out⟩⟩
                  clear g4 k4 rd2 rd1 b4 u4 yc zc
                  go_wp2_with fail
                  go_roundw
                  case rel => exact ⟨k + 1, true, false, by omega, by omega, by go_num, rfl, rfl, ST4⟩
                  case measure => simp [intOf]; omega
              | false =>
                cases loose with
                | true =>
                  have hrun1 := run_sr false false false
                  have hrun2 := run_rs true false false
                  have jr1 := lrun_new BU.out hrun1 (outs_sr _) (by simp)
                  have JR1 := Fact.mk jr1
                  have RUN2 := Fact.mk hrun2
                  clear hrun1 jr1 hrun2
                  go_wp2_with fail
                  refine JR1.out.mono ?_
                  rintro e W4 ⟨v1, rfl, rd1, k3, g3, fr3⟩
                  have d3 := BD.out.other g3 (Nat.ne_of_gt HNE.out)
                  have D3 := Fact.mk d3
                  have K3 := Fact.mk k3
                  have RD1 := Fact.mk rd1
                  have B3 := Fact.mk (HB.out.trans (grown_Below g3 HB.out.size lV))
                  have FR3 := Fact.mk (show v1.ownBlock ≠ some W3.heap.size from LrunPost.fresh_ne fr3 BD.out)
                  clear d3 k3 rd1 g3 fr3 JR1 ci cj
                  go_wp2_with fail
                  refine (lrun_new D3.out RUN2.out (outs_rs _) (by simp)).mono ?_
                  rintro e W5 ⟨v2, rfl, rd2, k4, g4, -⟩
                  have u4 := K3.out.other g4 (Nat.ne_of_lt HNE.out)
                  have rd1 := RD1.out.grown g4 FR3.out
                  obtain ⟨y0, y1, y2, rfl, yc⟩ := rd2.one64
                  obtain ⟨z0, z1, z2, rfl, zc⟩ := rd1.one64
                  have yc0 : W5.cell? ⟨y0, y1, none⟩ = some (.int .i64 1) := yc
                  have zc0 : W5.cell? ⟨z0, z1, none⟩ = some (.int .i64 0) := zc
                  have b4 : Below w.heap.size w W5 := B3.out.trans (grown_Below g4 B3.out.size (Nat.le_trans lV (Nat.le_of_lt HNE.out)))
                  have ST4 : Fact (LatSt w W5 W2.heap.size W3.heap.size false true) := ⟨⟨u4, k4, b4, lV, HNE.out⟩⟩
                  clear g4 k4 rd2 rd1 b4 u4 yc zc
                  go_wp2_with fail
                  go_roundw
                  case rel => exact ⟨k + 1, false, true, by omega, by omega, by go_num, rfl, rfl, ST4⟩
                  case measure => simp [intOf]; omega
                | false =>
                  have hrun1 := run_sr false false false
                  have hrun2 := run_rs false false false
                  have jr1 := lrun_new BU.out hrun1 (outs_sr _) (by simp)
                  have JR1 := Fact.mk jr1
                  have RUN2 := Fact.mk hrun2
                  clear hrun1 jr1 hrun2
                  go_wp2_with fail
                  refine JR1.out.mono ?_
                  rintro e W4 ⟨v1, rfl, rd1, k3, g3, fr3⟩
                  have d3 := BD.out.other g3 (Nat.ne_of_gt HNE.out)
                  have D3 := Fact.mk d3
                  have K3 := Fact.mk k3
                  have RD1 := Fact.mk rd1
                  have B3 := Fact.mk (HB.out.trans (grown_Below g3 HB.out.size lV))
                  have FR3 := Fact.mk (show v1.ownBlock ≠ some W3.heap.size from LrunPost.fresh_ne fr3 BD.out)
                  clear d3 k3 rd1 g3 fr3 JR1 ci cj
                  go_wp2_with fail
                  refine (lrun_new D3.out RUN2.out (outs_rs _) (by simp)).mono ?_
                  rintro e W5 ⟨v2, rfl, rd2, k4, g4, -⟩
                  have u4 := K3.out.other g4 (Nat.ne_of_lt HNE.out)
                  have rd1 := RD1.out.grown g4 FR3.out
                  obtain ⟨y0, y1, y2, rfl, yc⟩ := rd2.one64
                  obtain ⟨z0, z1, z2, rfl, zc⟩ := rd1.one64
                  have yc0 : W5.cell? ⟨y0, y1, none⟩ = some (.int .i64 0) := yc
                  have zc0 : W5.cell? ⟨z0, z1, none⟩ = some (.int .i64 0) := zc
                  have b4 : Below w.heap.size w W5 := B3.out.trans (grown_Below g4 B3.out.size (Nat.le_trans lV (Nat.le_of_lt HNE.out)))
                  have ST4 : Fact (LatSt w W5 W2.heap.size W3.heap.size false false) := ⟨⟨u4, k4, b4, lV, HNE.out⟩⟩
                  clear g4 k4 rd2 rd1 b4 u4 yc zc
                  go_wp2_with fail
                  go_roundw
                  case rel => exact ⟨k + 1, false, false, by omega, by omega, by go_num, rfl, rfl, ST4⟩
                  case measure => simp [intOf]; omega
        · obtain rfl : k = 40 := by omega
          have i1 : ((40 : Nat) : Int) < (xs.length : Int) := by omega
          clear hst
          go_wp2_with fail
          refine (awk _).mono ?_
          rintro e W6 ⟨rfl, hb6⟩
          have B6 := Fact.mk (HB.out.trans (hb6.mono HB.out.size))
          clear hb6
          go_wp2_with fail
          go_ret
          exact ⟨rfl, B6.out⟩
      · obtain rfl : k = xs.length := by omega
        clear hst
        go_wp2_with fail
        refine (awk _).mono ?_
        rintro e W6 ⟨rfl, hb6⟩
        have B6 := Fact.mk (HB.out.trans (hb6.mono HB.out.size))
        clear hb6
        go_wp2_with fail
        go_ret
        exact ⟨rfl, B6.out⟩
end Go.Proofs.Ytjanofopmmndoaa

